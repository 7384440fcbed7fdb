/- NumNearest: the printed functions it reaches, with their walks. Laid by wip/claimpack.py out of what wip/hprint.py printed. -/
import Derived.Test.YtakcdoahpbeckaaKNumNearest3
namespace Go.Proofs.Ytakcdoahpbeckaa.H
open Go.RowKit Go.Proofs.YtakcdoahpbeckaaW.PrintWords Go.Proofs.YtakcdoahpbeckaaW.PrintLast Go.Proofs.YtakcdoahpbeckaaW.PrintMore
attribute [local go_sem] max2_int min2_int max_two min_two max_three min_three max_four min_four   -- for this text's walks alone
set_option linter.unusedVariables false
set_option linter.unusedSimpArgs false

attribute [local go_sem high] eqA23
/-! ### withylaw01_summed: function 17 -/
def withylaw01_summed.f (k : Nat)  : Option (Bool) := (num_Add.f k 1 2 1 3).bind fun bt240 => ((num_Simplest.f k 1 3 1 2).bind fun bt244 => ((num_Decimal.f k (-1) 8 2).bind fun bt248 => ((num_Parse.f k (⟨#[49, 46, 50, 53]⟩ : ByteArray)).bind fun bt250 => (if bt240.2.2 = 0 then (if bt244.2.2 = 0 then (if bt248.2 = 0 then (if bt250.2.2 = 0 then (if (bt240.1 == 5 && (bt240.2.1 == 6)) = true then (if (bt244.1 == 2 && (bt244.2.1 == 5)) = true then (if bt248.1.toList = ([45, 48, 46, 49, 50] : List UInt8) then (some (bt250.1 == 5 && (bt250.2.1 == 4))) else (some false)) else (some false)) else (some false)) else (some false)) else (some false)) else (some false)) else (some false)))))
theorem withylaw01_summed.mono : ∀ k, LeO (withylaw01_summed.f k ) (withylaw01_summed.f (k + 1) ) := by
  intro  k
  unfold withylaw01_summed.f
  repeat' first
      | (with_reducible exact num_Add.mono _ _ _ _ _)
      | (with_reducible exact num_Decimal.mono _ _ _ _)
      | (with_reducible exact num_Parse.mono _ _)
      | (with_reducible exact num_Simplest.mono _ _ _ _ _)
      | (with_reducible exact LeO.refl _)
      | (with_reducible exact LeO.none _)
      | (with_reducible refine LeO.ite ?_ ?_)
      | (with_reducible refine LeO.bind ?_ (fun _ => ?_))
      | (with_reducible refine LeO.exc (fun _ => ?_) (fun _ => ?_))
      | exact num_Add.mono _ _ _ _ _
      | exact num_Decimal.mono _ _ _ _
      | exact num_Parse.mono _ _
      | exact num_Simplest.mono _ _ _ _ _
      | exact LeO.none _
      | refine LeO.ite ?_ ?_
      | refine LeO.bind ?_ (fun _ => ?_)
set_option maxHeartbeats 8000000 in
set_option maxRecDepth 100000 in
theorem withylaw01_summed.calls (k : Nat)  (r : Bool) (w : World) (h : withylaw01_summed.f k  = some r) :
    Calls Try.prog 17 #[] w fun e w' => e = .returned (.bool r) ∧ Below w.heap.size w w' := by
  have hu23 := Try.underlying23
  have HB := Aside0.mk (Below.refl w.heap.size w)
  have H : ((num_Add.f k 1 2 1 3).bind fun bt240 => ((num_Simplest.f k 1 3 1 2).bind fun bt244 => ((num_Decimal.f k (-1) 8 2).bind fun bt248 => ((num_Parse.f k (⟨#[49, 46, 50, 53]⟩ : ByteArray)).bind fun bt250 => (if bt240.2.2 = 0 then (if bt244.2.2 = 0 then (if bt248.2 = 0 then (if bt250.2.2 = 0 then (if (bt240.1 == 5 && (bt240.2.1 == 6)) = true then (if (bt244.1 == 2 && (bt244.2.1 == 5)) = true then (if bt248.1.toList = ([45, 48, 46, 49, 50] : List UInt8) then (some (bt250.1 == 5 && (bt250.2.1 == 4))) else (some false)) else (some false)) else (some false)) else (some false)) else (some false)) else (some false)) else (some false)))))) = some r := h
  clear h
  replace H := Option.bind_eq_some_iff.mp H
  obtain ⟨⟨t240, t241, t242⟩, A10, H⟩ := H
  replace H : ((num_Simplest.f k 1 3 1 2).bind fun bt244 => ((num_Decimal.f k (-1) 8 2).bind fun bt248 => ((num_Parse.f k (⟨#[49, 46, 50, 53]⟩ : ByteArray)).bind fun bt250 => (if t242 = 0 then (if bt244.2.2 = 0 then (if bt248.2 = 0 then (if bt250.2.2 = 0 then (if (t240 == 5 && (t241 == 6)) = true then (if (bt244.1 == 2 && (bt244.2.1 == 5)) = true then (if bt248.1.toList = ([45, 48, 46, 49, 50] : List UInt8) then (some (bt250.1 == 5 && (bt250.2.1 == 4))) else (some false)) else (some false)) else (some false)) else (some false)) else (some false)) else (some false)) else (some false))))) = some r := H
  have A1 := Aside0.mk A10
  clear A10
  replace H := Option.bind_eq_some_iff.mp H
  obtain ⟨⟨t244, t245, t246⟩, A20, H⟩ := H
  replace H : ((num_Decimal.f k (-1) 8 2).bind fun bt248 => ((num_Parse.f k (⟨#[49, 46, 50, 53]⟩ : ByteArray)).bind fun bt250 => (if t242 = 0 then (if t246 = 0 then (if bt248.2 = 0 then (if bt250.2.2 = 0 then (if (t240 == 5 && (t241 == 6)) = true then (if (t244 == 2 && (t245 == 5)) = true then (if bt248.1.toList = ([45, 48, 46, 49, 50] : List UInt8) then (some (bt250.1 == 5 && (bt250.2.1 == 4))) else (some false)) else (some false)) else (some false)) else (some false)) else (some false)) else (some false)) else (some false)))) = some r := H
  have A2 := Aside0.mk A20
  clear A20
  replace H := Option.bind_eq_some_iff.mp H
  obtain ⟨⟨t248, t249⟩, A30, H⟩ := H
  replace H : ((num_Parse.f k (⟨#[49, 46, 50, 53]⟩ : ByteArray)).bind fun bt250 => (if t242 = 0 then (if t246 = 0 then (if t249 = 0 then (if bt250.2.2 = 0 then (if (t240 == 5 && (t241 == 6)) = true then (if (t244 == 2 && (t245 == 5)) = true then (if t248.toList = ([45, 48, 46, 49, 50] : List UInt8) then (some (bt250.1 == 5 && (bt250.2.1 == 4))) else (some false)) else (some false)) else (some false)) else (some false)) else (some false)) else (some false)) else (some false))) = some r := H
  have A3 := Aside0.mk A30
  clear A30
  replace H := Option.bind_eq_some_iff.mp H
  obtain ⟨⟨t250, t251, t252⟩, A40, H⟩ := H
  replace H : (if t242 = 0 then (if t246 = 0 then (if t249 = 0 then (if t252 = 0 then (if (t240 == 5 && (t241 == 6)) = true then (if (t244 == 2 && (t245 == 5)) = true then (if t248.toList = ([45, 48, 46, 49, 50] : List UInt8) then (some (t250 == 5 && (t251 == 4))) else (some false)) else (some false)) else (some false)) else (some false)) else (some false)) else (some false)) else (some false)) = some r := H
  have A4 := Aside0.mk A40
  clear A40
  by_cases c5 : t242 = 0
  · rw [if_pos c5] at H
    have c5b0 : (t242 == 0) = true := beq_iff_eq.mpr c5
    have c5b1 : (t242 != 0) = false := bne_eq_false_iff_eq.mpr c5
    clear c5
    by_cases c6 : t246 = 0
    · rw [if_pos c6] at H
      have c6b0 : (t246 == 0) = true := beq_iff_eq.mpr c6
      have c6b1 : (t246 != 0) = false := bne_eq_false_iff_eq.mpr c6
      clear c6
      by_cases c7 : t249 = 0
      · rw [if_pos c7] at H
        have c7b0 : (t249 == 0) = true := beq_iff_eq.mpr c7
        have c7b1 : (t249 != 0) = false := bne_eq_false_iff_eq.mpr c7
        clear c7
        by_cases c8 : t252 = 0
        · rw [if_pos c8] at H
          have c8b0 : (t252 == 0) = true := beq_iff_eq.mpr c8
          have c8b1 : (t252 != 0) = false := bne_eq_false_iff_eq.mpr c8
          clear c8
          by_cases c9 : (t240 == 5 && (t241 == 6)) = true
          · rw [if_pos c9] at H
            have c9b0 : (t240 == 5 && (t241 == 6)) = true := c9
            (try (have c9b1 : decide (t240 = 5 && (t241 == 6)) = true := by simpa using c9))
            (try (have c9b2 : (t240 == 5 && (t241 == 6)) = true := by simpa using c9))
            clear c9
            by_cases c10 : (t244 == 2 && (t245 == 5)) = true
            · rw [if_pos c10] at H
              have c10b0 : (t244 == 2 && (t245 == 5)) = true := c10
              (try (have c10b1 : decide (t244 = 2 && (t245 == 5)) = true := by simpa using c10))
              (try (have c10b2 : (t244 == 2 && (t245 == 5)) = true := by simpa using c10))
              clear c10
              by_cases c11 : t248.toList = ([45, 48, 46, 49, 50] : List UInt8)
              · rw [if_pos c11] at H
                have c11b0 : (t248.toList == ([45, 48, 46, 49, 50] : List UInt8)) = true := beq_iff_eq.mpr c11
                have c11b1 : (t248.toList != ([45, 48, 46, 49, 50] : List UInt8)) = false := bne_eq_false_iff_eq.mpr c11
                clear c11
                obtain rfl := Option.some.inj H
                go_enter Try.func17, Try.ntmps17
                go_wp2_with (first | ((with_reducible refine gate_callee (f := 18) rfl ?_); refine gla_ (some 12) Try.func18 #[.agg #[.int .i64 1, .int .i64 2], .agg #[.int .i64 1, .int .i64 3]] ?_; (with_reducible refine (num_Add.calls k 1 2 1 3 t240 t241 t242 _ A1.out).mono ?_); rintro e w12 ⟨rfl, hb⟩; refine ⟨_, rfl, ?_⟩; replace HB := bws_ HB hb; (try clear hb); (try clear hb2); (try clear hk); (try clear hi)) | ((with_reducible refine gate_dst (N := 1) rfl ?_); refine box_event ?hg (N := 1) ?hd (cs := #[.int .i64 0, .int .i64 0]) (t := 23) ?hr ?_; (case hd => rfl); (case hg => rfl); (case hr => first | (go_simp; done) | (go_simp; rfl)); intro gb243 hg w13 hbox hb; have BK243 := Aside0.mk hbox; have GW243 := bwg_ HB hg; have GE243 := bwg_ HB hg; replace HB := bws_ HB hb; clear hb hbox hg; obtain ⟨hcz14_0, hcz14_1, hfz14_0, hfz14_1⟩ := bc2_ BK243) | ((with_reducible refine gate_callee (f := 25) rfl ?_); refine gla_ (some 18) Try.func25 #[.agg #[.int .i64 1, .int .i64 3], .agg #[.int .i64 1, .int .i64 2]] ?_; (with_reducible refine (num_Simplest.calls k 1 3 1 2 t244 t245 t246 _ A2.out).mono ?_); rintro e w15 ⟨rfl, hb⟩; refine ⟨_, rfl, ?_⟩; replace BK243 := Aside0.mk (blk_below (g := gb243) (o := .cells #[.int .i64 t240, .int .i64 t241] 23 (0, 0)) (by refine bp_ (cs := #[.int .i64 t240, .int .i64 0]) ?_ 1; refine bp_ (cs := #[.int .i64 0, .int .i64 0]) ?_ 0; exact bk_ BK243) hb); replace HB := bws_ HB hb; (try clear hb); (try clear hb2); (try clear hk); (try clear hi)) | ((with_reducible refine gate_dst (N := 3) rfl ?_); refine box_event ?hg (N := 3) ?hd (cs := #[.int .i64 0, .int .i64 0]) (t := 23) ?hr ?_; (case hd => rfl); (case hg => rfl); (case hr => first | (go_simp; done) | (go_simp; rfl)); intro gb247 hg w16 hbox hb; have BK247 := Aside0.mk hbox; have GW247 := bwg_ HB hg; have GE247 := bwg_ HB hg; replace HB := bws_ HB hb; have NB243_247 := bkl_ BK243 hg; have NB247_243 := bkr_ BK243 hg; replace BK243 := bkb_ BK243 hb; clear hb hbox hg; have hnb17 := NB247_243.out; have hnc17 := NB243_247.out; obtain ⟨hcz18_0, hcz18_1, hfz18_0, hfz18_1⟩ := bc2_ BK247) | ((with_reducible refine gate_callee (f := 35) rfl ?_); refine gla_ (some 23) Try.func35 #[.agg #[.int .i64 (-1), .int .i64 8], .int .i64 2] ?_; (with_reducible refine (num_Decimal.calls k (-1) 8 2 t248 t249 _ A3.out).mono ?_); rintro e w19 ⟨rfl, hb⟩; refine ⟨_, rfl, ?_⟩; replace BK243 := Aside0.mk (blk_below (g := gb243) (o := .cells #[.int .i64 t240, .int .i64 t241] 23 (0, 0)) (by refine bf_ ?_ NB243_247; refine bf_ ?_ NB243_247; exact bk_ BK243) hb); replace BK247 := Aside0.mk (blk_below (g := gb247) (o := .cells #[.int .i64 t244, .int .i64 t245] 23 (0, 0)) (by refine bp_ (cs := #[.int .i64 t244, .int .i64 0]) ?_ 1; refine bp_ (cs := #[.int .i64 0, .int .i64 0]) ?_ 0; exact bk_ BK247) hb); replace HB := bws_ HB hb; (try clear hb); (try clear hb2); (try clear hk); (try clear hi)) | ((with_reducible refine gate_callee (f := 39) rfl ?_); refine gla_ (some 27) Try.func39 #[.string (⟨#[49, 46, 50, 53]⟩ : ByteArray)] ?_; (with_reducible refine (num_Parse.calls k (⟨#[49, 46, 50, 53]⟩ : ByteArray) t250 t251 t252 _ A4.out).mono ?_); rintro e w20 ⟨rfl, hb⟩; refine ⟨_, rfl, ?_⟩; replace BK243 := bkb_ BK243 hb; replace BK247 := bkb_ BK247 hb; replace HB := bws_ HB hb; (try clear hb); (try clear hb2); (try clear hk); (try clear hi)) | ((with_reducible refine gate_dst (N := 7) rfl ?_); refine box_event ?hg (N := 7) ?hd (cs := #[.int .i64 0, .int .i64 0]) (t := 23) ?hr ?_; (case hd => rfl); (case hg => rfl); (case hr => first | (go_simp; done) | (go_simp; rfl)); intro gb253 hg w21 hbox hb; have BK253 := Aside0.mk hbox; have GW253 := bwg_ HB hg; have GE253 := bwg_ HB hg; replace HB := bws_ HB hb; have NB243_253 := bkl_ BK243 hg; have NB253_243 := bkr_ BK243 hg; replace BK243 := bkb_ BK243 hb; have NB247_253 := bkl_ BK247 hg; have NB253_247 := bkr_ BK247 hg; replace BK247 := bkb_ BK247 hb; clear hb hbox hg; have hnb22 := NB253_243.out; have hnc22 := NB243_253.out; have hnb23 := NB253_247.out; have hnc23 := NB247_253.out; obtain ⟨hcz24_0, hcz24_1, hfz24_0, hfz24_1⟩ := bc2_ BK253; obtain ⟨hcz25_0, hcz25_1, hfz25_0, hfz25_1⟩ := bc2_ BK243; obtain ⟨hcz26_0, hcz26_1, hfz26_0, hfz26_1⟩ := bc2_ BK247))
                go_ret
                exact ⟨by first | rfl | (simp [*] <;> rfl), bw_ HB⟩
              · rw [if_neg c11] at H
                have c11b0 : (t248.toList == ([45, 48, 46, 49, 50] : List UInt8)) = false := beq_eq_false_iff_ne.mpr c11
                have c11b1 : (t248.toList != ([45, 48, 46, 49, 50] : List UInt8)) = true := bne_iff_ne.mpr c11
                obtain rfl := Option.some.inj H
                go_enter Try.func17, Try.ntmps17
                go_wp2_with (first | ((with_reducible refine gate_callee (f := 18) rfl ?_); refine gla_ (some 12) Try.func18 #[.agg #[.int .i64 1, .int .i64 2], .agg #[.int .i64 1, .int .i64 3]] ?_; (with_reducible refine (num_Add.calls k 1 2 1 3 t240 t241 t242 _ A1.out).mono ?_); rintro e w27 ⟨rfl, hb⟩; refine ⟨_, rfl, ?_⟩; replace HB := bws_ HB hb; (try clear hb); (try clear hb2); (try clear hk); (try clear hi)) | ((with_reducible refine gate_dst (N := 1) rfl ?_); refine box_event ?hg (N := 1) ?hd (cs := #[.int .i64 0, .int .i64 0]) (t := 23) ?hr ?_; (case hd => rfl); (case hg => rfl); (case hr => first | (go_simp; done) | (go_simp; rfl)); intro gb243 hg w28 hbox hb; have BK243 := Aside0.mk hbox; have GW243 := bwg_ HB hg; have GE243 := bwg_ HB hg; replace HB := bws_ HB hb; clear hb hbox hg; obtain ⟨hcz29_0, hcz29_1, hfz29_0, hfz29_1⟩ := bc2_ BK243) | ((with_reducible refine gate_callee (f := 25) rfl ?_); refine gla_ (some 18) Try.func25 #[.agg #[.int .i64 1, .int .i64 3], .agg #[.int .i64 1, .int .i64 2]] ?_; (with_reducible refine (num_Simplest.calls k 1 3 1 2 t244 t245 t246 _ A2.out).mono ?_); rintro e w30 ⟨rfl, hb⟩; refine ⟨_, rfl, ?_⟩; replace BK243 := Aside0.mk (blk_below (g := gb243) (o := .cells #[.int .i64 t240, .int .i64 t241] 23 (0, 0)) (by refine bp_ (cs := #[.int .i64 t240, .int .i64 0]) ?_ 1; refine bp_ (cs := #[.int .i64 0, .int .i64 0]) ?_ 0; exact bk_ BK243) hb); replace HB := bws_ HB hb; (try clear hb); (try clear hb2); (try clear hk); (try clear hi)) | ((with_reducible refine gate_dst (N := 3) rfl ?_); refine box_event ?hg (N := 3) ?hd (cs := #[.int .i64 0, .int .i64 0]) (t := 23) ?hr ?_; (case hd => rfl); (case hg => rfl); (case hr => first | (go_simp; done) | (go_simp; rfl)); intro gb247 hg w31 hbox hb; have BK247 := Aside0.mk hbox; have GW247 := bwg_ HB hg; have GE247 := bwg_ HB hg; replace HB := bws_ HB hb; have NB243_247 := bkl_ BK243 hg; have NB247_243 := bkr_ BK243 hg; replace BK243 := bkb_ BK243 hb; clear hb hbox hg; have hnb32 := NB247_243.out; have hnc32 := NB243_247.out; obtain ⟨hcz33_0, hcz33_1, hfz33_0, hfz33_1⟩ := bc2_ BK247) | ((with_reducible refine gate_callee (f := 35) rfl ?_); refine gla_ (some 23) Try.func35 #[.agg #[.int .i64 (-1), .int .i64 8], .int .i64 2] ?_; (with_reducible refine (num_Decimal.calls k (-1) 8 2 t248 t249 _ A3.out).mono ?_); rintro e w34 ⟨rfl, hb⟩; refine ⟨_, rfl, ?_⟩; replace BK243 := Aside0.mk (blk_below (g := gb243) (o := .cells #[.int .i64 t240, .int .i64 t241] 23 (0, 0)) (by refine bf_ ?_ NB243_247; refine bf_ ?_ NB243_247; exact bk_ BK243) hb); replace BK247 := Aside0.mk (blk_below (g := gb247) (o := .cells #[.int .i64 t244, .int .i64 t245] 23 (0, 0)) (by refine bp_ (cs := #[.int .i64 t244, .int .i64 0]) ?_ 1; refine bp_ (cs := #[.int .i64 0, .int .i64 0]) ?_ 0; exact bk_ BK247) hb); replace HB := bws_ HB hb; (try clear hb); (try clear hb2); (try clear hk); (try clear hi)) | ((with_reducible refine gate_callee (f := 39) rfl ?_); refine gla_ (some 27) Try.func39 #[.string (⟨#[49, 46, 50, 53]⟩ : ByteArray)] ?_; (with_reducible refine (num_Parse.calls k (⟨#[49, 46, 50, 53]⟩ : ByteArray) t250 t251 t252 _ A4.out).mono ?_); rintro e w35 ⟨rfl, hb⟩; refine ⟨_, rfl, ?_⟩; replace BK243 := bkb_ BK243 hb; replace BK247 := bkb_ BK247 hb; replace HB := bws_ HB hb; (try clear hb); (try clear hb2); (try clear hk); (try clear hi)) | ((with_reducible refine gate_dst (N := 7) rfl ?_); refine box_event ?hg (N := 7) ?hd (cs := #[.int .i64 0, .int .i64 0]) (t := 23) ?hr ?_; (case hd => rfl); (case hg => rfl); (case hr => first | (go_simp; done) | (go_simp; rfl)); intro gb253 hg w36 hbox hb; have BK253 := Aside0.mk hbox; have GW253 := bwg_ HB hg; have GE253 := bwg_ HB hg; replace HB := bws_ HB hb; have NB243_253 := bkl_ BK243 hg; have NB253_243 := bkr_ BK243 hg; replace BK243 := bkb_ BK243 hb; have NB247_253 := bkl_ BK247 hg; have NB253_247 := bkr_ BK247 hg; replace BK247 := bkb_ BK247 hb; clear hb hbox hg; have hnb37 := NB253_243.out; have hnc37 := NB243_253.out; have hnb38 := NB253_247.out; have hnc38 := NB247_253.out; obtain ⟨hcz39_0, hcz39_1, hfz39_0, hfz39_1⟩ := bc2_ BK253; obtain ⟨hcz40_0, hcz40_1, hfz40_0, hfz40_1⟩ := bc2_ BK243; obtain ⟨hcz41_0, hcz41_1, hfz41_0, hfz41_1⟩ := bc2_ BK247))
                go_ret
                exact ⟨by first | rfl | (simp [*] <;> rfl), bw_ HB⟩
            · rw [if_neg c10] at H
              have c10b0 : (t244 == 2 && (t245 == 5)) = false := by simpa using c10
              (try (have c10b1 : decide (t244 = 2 && (t245 == 5)) = false := by simpa using c10))
              (try (have c10b2 : (t244 == 2 && (t245 == 5)) = false := by simpa using c10))
              (try (have c10b3 : ¬ (t244 = 2 && (t245 == 5)) := by simpa using c10))
              clear c10
              obtain rfl := Option.some.inj H
              go_enter Try.func17, Try.ntmps17
              go_wp2_with (first | ((with_reducible refine gate_callee (f := 18) rfl ?_); refine gla_ (some 12) Try.func18 #[.agg #[.int .i64 1, .int .i64 2], .agg #[.int .i64 1, .int .i64 3]] ?_; (with_reducible refine (num_Add.calls k 1 2 1 3 t240 t241 t242 _ A1.out).mono ?_); rintro e w42 ⟨rfl, hb⟩; refine ⟨_, rfl, ?_⟩; replace HB := bws_ HB hb; (try clear hb); (try clear hb2); (try clear hk); (try clear hi)) | ((with_reducible refine gate_dst (N := 1) rfl ?_); refine box_event ?hg (N := 1) ?hd (cs := #[.int .i64 0, .int .i64 0]) (t := 23) ?hr ?_; (case hd => rfl); (case hg => rfl); (case hr => first | (go_simp; done) | (go_simp; rfl)); intro gb243 hg w43 hbox hb; have BK243 := Aside0.mk hbox; have GW243 := bwg_ HB hg; have GE243 := bwg_ HB hg; replace HB := bws_ HB hb; clear hb hbox hg; obtain ⟨hcz44_0, hcz44_1, hfz44_0, hfz44_1⟩ := bc2_ BK243) | ((with_reducible refine gate_callee (f := 25) rfl ?_); refine gla_ (some 18) Try.func25 #[.agg #[.int .i64 1, .int .i64 3], .agg #[.int .i64 1, .int .i64 2]] ?_; (with_reducible refine (num_Simplest.calls k 1 3 1 2 t244 t245 t246 _ A2.out).mono ?_); rintro e w45 ⟨rfl, hb⟩; refine ⟨_, rfl, ?_⟩; replace BK243 := Aside0.mk (blk_below (g := gb243) (o := .cells #[.int .i64 t240, .int .i64 t241] 23 (0, 0)) (by refine bp_ (cs := #[.int .i64 t240, .int .i64 0]) ?_ 1; refine bp_ (cs := #[.int .i64 0, .int .i64 0]) ?_ 0; exact bk_ BK243) hb); replace HB := bws_ HB hb; (try clear hb); (try clear hb2); (try clear hk); (try clear hi)) | ((with_reducible refine gate_dst (N := 3) rfl ?_); refine box_event ?hg (N := 3) ?hd (cs := #[.int .i64 0, .int .i64 0]) (t := 23) ?hr ?_; (case hd => rfl); (case hg => rfl); (case hr => first | (go_simp; done) | (go_simp; rfl)); intro gb247 hg w46 hbox hb; have BK247 := Aside0.mk hbox; have GW247 := bwg_ HB hg; have GE247 := bwg_ HB hg; replace HB := bws_ HB hb; have NB243_247 := bkl_ BK243 hg; have NB247_243 := bkr_ BK243 hg; replace BK243 := bkb_ BK243 hb; clear hb hbox hg; have hnb47 := NB247_243.out; have hnc47 := NB243_247.out; obtain ⟨hcz48_0, hcz48_1, hfz48_0, hfz48_1⟩ := bc2_ BK247) | ((with_reducible refine gate_callee (f := 35) rfl ?_); refine gla_ (some 23) Try.func35 #[.agg #[.int .i64 (-1), .int .i64 8], .int .i64 2] ?_; (with_reducible refine (num_Decimal.calls k (-1) 8 2 t248 t249 _ A3.out).mono ?_); rintro e w49 ⟨rfl, hb⟩; refine ⟨_, rfl, ?_⟩; replace BK243 := Aside0.mk (blk_below (g := gb243) (o := .cells #[.int .i64 t240, .int .i64 t241] 23 (0, 0)) (by refine bf_ ?_ NB243_247; refine bf_ ?_ NB243_247; exact bk_ BK243) hb); replace BK247 := Aside0.mk (blk_below (g := gb247) (o := .cells #[.int .i64 t244, .int .i64 t245] 23 (0, 0)) (by refine bp_ (cs := #[.int .i64 t244, .int .i64 0]) ?_ 1; refine bp_ (cs := #[.int .i64 0, .int .i64 0]) ?_ 0; exact bk_ BK247) hb); replace HB := bws_ HB hb; (try clear hb); (try clear hb2); (try clear hk); (try clear hi)) | ((with_reducible refine gate_callee (f := 39) rfl ?_); refine gla_ (some 27) Try.func39 #[.string (⟨#[49, 46, 50, 53]⟩ : ByteArray)] ?_; (with_reducible refine (num_Parse.calls k (⟨#[49, 46, 50, 53]⟩ : ByteArray) t250 t251 t252 _ A4.out).mono ?_); rintro e w50 ⟨rfl, hb⟩; refine ⟨_, rfl, ?_⟩; replace BK243 := bkb_ BK243 hb; replace BK247 := bkb_ BK247 hb; replace HB := bws_ HB hb; (try clear hb); (try clear hb2); (try clear hk); (try clear hi)) | ((with_reducible refine gate_dst (N := 7) rfl ?_); refine box_event ?hg (N := 7) ?hd (cs := #[.int .i64 0, .int .i64 0]) (t := 23) ?hr ?_; (case hd => rfl); (case hg => rfl); (case hr => first | (go_simp; done) | (go_simp; rfl)); intro gb253 hg w51 hbox hb; have BK253 := Aside0.mk hbox; have GW253 := bwg_ HB hg; have GE253 := bwg_ HB hg; replace HB := bws_ HB hb; have NB243_253 := bkl_ BK243 hg; have NB253_243 := bkr_ BK243 hg; replace BK243 := bkb_ BK243 hb; have NB247_253 := bkl_ BK247 hg; have NB253_247 := bkr_ BK247 hg; replace BK247 := bkb_ BK247 hb; clear hb hbox hg; have hnb52 := NB253_243.out; have hnc52 := NB243_253.out; have hnb53 := NB253_247.out; have hnc53 := NB247_253.out; obtain ⟨hcz54_0, hcz54_1, hfz54_0, hfz54_1⟩ := bc2_ BK253; obtain ⟨hcz55_0, hcz55_1, hfz55_0, hfz55_1⟩ := bc2_ BK243; obtain ⟨hcz56_0, hcz56_1, hfz56_0, hfz56_1⟩ := bc2_ BK247))
              go_ret
              exact ⟨by first | rfl | (simp [*] <;> rfl), bw_ HB⟩
          · rw [if_neg c9] at H
            have c9b0 : (t240 == 5 && (t241 == 6)) = false := by simpa using c9
            (try (have c9b1 : decide (t240 = 5 && (t241 == 6)) = false := by simpa using c9))
            (try (have c9b2 : (t240 == 5 && (t241 == 6)) = false := by simpa using c9))
            (try (have c9b3 : ¬ (t240 = 5 && (t241 == 6)) := by simpa using c9))
            clear c9
            obtain rfl := Option.some.inj H
            go_enter Try.func17, Try.ntmps17
            go_wp2_with (first | ((with_reducible refine gate_callee (f := 18) rfl ?_); refine gla_ (some 12) Try.func18 #[.agg #[.int .i64 1, .int .i64 2], .agg #[.int .i64 1, .int .i64 3]] ?_; (with_reducible refine (num_Add.calls k 1 2 1 3 t240 t241 t242 _ A1.out).mono ?_); rintro e w57 ⟨rfl, hb⟩; refine ⟨_, rfl, ?_⟩; replace HB := bws_ HB hb; (try clear hb); (try clear hb2); (try clear hk); (try clear hi)) | ((with_reducible refine gate_dst (N := 1) rfl ?_); refine box_event ?hg (N := 1) ?hd (cs := #[.int .i64 0, .int .i64 0]) (t := 23) ?hr ?_; (case hd => rfl); (case hg => rfl); (case hr => first | (go_simp; done) | (go_simp; rfl)); intro gb243 hg w58 hbox hb; have BK243 := Aside0.mk hbox; have GW243 := bwg_ HB hg; have GE243 := bwg_ HB hg; replace HB := bws_ HB hb; clear hb hbox hg; obtain ⟨hcz59_0, hcz59_1, hfz59_0, hfz59_1⟩ := bc2_ BK243) | ((with_reducible refine gate_callee (f := 25) rfl ?_); refine gla_ (some 18) Try.func25 #[.agg #[.int .i64 1, .int .i64 3], .agg #[.int .i64 1, .int .i64 2]] ?_; (with_reducible refine (num_Simplest.calls k 1 3 1 2 t244 t245 t246 _ A2.out).mono ?_); rintro e w60 ⟨rfl, hb⟩; refine ⟨_, rfl, ?_⟩; replace BK243 := Aside0.mk (blk_below (g := gb243) (o := .cells #[.int .i64 t240, .int .i64 t241] 23 (0, 0)) (by refine bp_ (cs := #[.int .i64 t240, .int .i64 0]) ?_ 1; refine bp_ (cs := #[.int .i64 0, .int .i64 0]) ?_ 0; exact bk_ BK243) hb); replace HB := bws_ HB hb; (try clear hb); (try clear hb2); (try clear hk); (try clear hi)) | ((with_reducible refine gate_dst (N := 3) rfl ?_); refine box_event ?hg (N := 3) ?hd (cs := #[.int .i64 0, .int .i64 0]) (t := 23) ?hr ?_; (case hd => rfl); (case hg => rfl); (case hr => first | (go_simp; done) | (go_simp; rfl)); intro gb247 hg w61 hbox hb; have BK247 := Aside0.mk hbox; have GW247 := bwg_ HB hg; have GE247 := bwg_ HB hg; replace HB := bws_ HB hb; have NB243_247 := bkl_ BK243 hg; have NB247_243 := bkr_ BK243 hg; replace BK243 := bkb_ BK243 hb; clear hb hbox hg; have hnb62 := NB247_243.out; have hnc62 := NB243_247.out; obtain ⟨hcz63_0, hcz63_1, hfz63_0, hfz63_1⟩ := bc2_ BK247) | ((with_reducible refine gate_callee (f := 35) rfl ?_); refine gla_ (some 23) Try.func35 #[.agg #[.int .i64 (-1), .int .i64 8], .int .i64 2] ?_; (with_reducible refine (num_Decimal.calls k (-1) 8 2 t248 t249 _ A3.out).mono ?_); rintro e w64 ⟨rfl, hb⟩; refine ⟨_, rfl, ?_⟩; replace BK243 := Aside0.mk (blk_below (g := gb243) (o := .cells #[.int .i64 t240, .int .i64 t241] 23 (0, 0)) (by refine bf_ ?_ NB243_247; refine bf_ ?_ NB243_247; exact bk_ BK243) hb); replace BK247 := Aside0.mk (blk_below (g := gb247) (o := .cells #[.int .i64 t244, .int .i64 t245] 23 (0, 0)) (by refine bp_ (cs := #[.int .i64 t244, .int .i64 0]) ?_ 1; refine bp_ (cs := #[.int .i64 0, .int .i64 0]) ?_ 0; exact bk_ BK247) hb); replace HB := bws_ HB hb; (try clear hb); (try clear hb2); (try clear hk); (try clear hi)) | ((with_reducible refine gate_callee (f := 39) rfl ?_); refine gla_ (some 27) Try.func39 #[.string (⟨#[49, 46, 50, 53]⟩ : ByteArray)] ?_; (with_reducible refine (num_Parse.calls k (⟨#[49, 46, 50, 53]⟩ : ByteArray) t250 t251 t252 _ A4.out).mono ?_); rintro e w65 ⟨rfl, hb⟩; refine ⟨_, rfl, ?_⟩; replace BK243 := bkb_ BK243 hb; replace BK247 := bkb_ BK247 hb; replace HB := bws_ HB hb; (try clear hb); (try clear hb2); (try clear hk); (try clear hi)) | ((with_reducible refine gate_dst (N := 7) rfl ?_); refine box_event ?hg (N := 7) ?hd (cs := #[.int .i64 0, .int .i64 0]) (t := 23) ?hr ?_; (case hd => rfl); (case hg => rfl); (case hr => first | (go_simp; done) | (go_simp; rfl)); intro gb253 hg w66 hbox hb; have BK253 := Aside0.mk hbox; have GW253 := bwg_ HB hg; have GE253 := bwg_ HB hg; replace HB := bws_ HB hb; have NB243_253 := bkl_ BK243 hg; have NB253_243 := bkr_ BK243 hg; replace BK243 := bkb_ BK243 hb; have NB247_253 := bkl_ BK247 hg; have NB253_247 := bkr_ BK247 hg; replace BK247 := bkb_ BK247 hb; clear hb hbox hg; have hnb67 := NB253_243.out; have hnc67 := NB243_253.out; have hnb68 := NB253_247.out; have hnc68 := NB247_253.out; obtain ⟨hcz69_0, hcz69_1, hfz69_0, hfz69_1⟩ := bc2_ BK253; obtain ⟨hcz70_0, hcz70_1, hfz70_0, hfz70_1⟩ := bc2_ BK243))
            go_ret
            exact ⟨by first | rfl | (simp [*] <;> rfl), bw_ HB⟩
        · rw [if_neg c8] at H
          have c8b0 : (t252 == 0) = false := beq_eq_false_iff_ne.mpr c8
          have c8b1 : (t252 != 0) = true := bne_iff_ne.mpr c8
          obtain rfl := Option.some.inj H
          go_enter Try.func17, Try.ntmps17
          go_wp2_with (first | ((with_reducible refine gate_callee (f := 18) rfl ?_); refine gla_ (some 12) Try.func18 #[.agg #[.int .i64 1, .int .i64 2], .agg #[.int .i64 1, .int .i64 3]] ?_; (with_reducible refine (num_Add.calls k 1 2 1 3 t240 t241 t242 _ A1.out).mono ?_); rintro e w71 ⟨rfl, hb⟩; refine ⟨_, rfl, ?_⟩; replace HB := bws_ HB hb; (try clear hb); (try clear hb2); (try clear hk); (try clear hi)) | ((with_reducible refine gate_dst (N := 1) rfl ?_); refine box_event ?hg (N := 1) ?hd (cs := #[.int .i64 0, .int .i64 0]) (t := 23) ?hr ?_; (case hd => rfl); (case hg => rfl); (case hr => first | (go_simp; done) | (go_simp; rfl)); intro gb243 hg w72 hbox hb; have BK243 := Aside0.mk hbox; have GW243 := bwg_ HB hg; have GE243 := bwg_ HB hg; replace HB := bws_ HB hb; clear hb hbox hg; obtain ⟨hcz73_0, hcz73_1, hfz73_0, hfz73_1⟩ := bc2_ BK243) | ((with_reducible refine gate_callee (f := 25) rfl ?_); refine gla_ (some 18) Try.func25 #[.agg #[.int .i64 1, .int .i64 3], .agg #[.int .i64 1, .int .i64 2]] ?_; (with_reducible refine (num_Simplest.calls k 1 3 1 2 t244 t245 t246 _ A2.out).mono ?_); rintro e w74 ⟨rfl, hb⟩; refine ⟨_, rfl, ?_⟩; replace BK243 := Aside0.mk (blk_below (g := gb243) (o := .cells #[.int .i64 t240, .int .i64 t241] 23 (0, 0)) (by refine bp_ (cs := #[.int .i64 t240, .int .i64 0]) ?_ 1; refine bp_ (cs := #[.int .i64 0, .int .i64 0]) ?_ 0; exact bk_ BK243) hb); replace HB := bws_ HB hb; (try clear hb); (try clear hb2); (try clear hk); (try clear hi)) | ((with_reducible refine gate_dst (N := 3) rfl ?_); refine box_event ?hg (N := 3) ?hd (cs := #[.int .i64 0, .int .i64 0]) (t := 23) ?hr ?_; (case hd => rfl); (case hg => rfl); (case hr => first | (go_simp; done) | (go_simp; rfl)); intro gb247 hg w75 hbox hb; have BK247 := Aside0.mk hbox; have GW247 := bwg_ HB hg; have GE247 := bwg_ HB hg; replace HB := bws_ HB hb; have NB243_247 := bkl_ BK243 hg; have NB247_243 := bkr_ BK243 hg; replace BK243 := bkb_ BK243 hb; clear hb hbox hg; have hnb76 := NB247_243.out; have hnc76 := NB243_247.out; obtain ⟨hcz77_0, hcz77_1, hfz77_0, hfz77_1⟩ := bc2_ BK247) | ((with_reducible refine gate_callee (f := 35) rfl ?_); refine gla_ (some 23) Try.func35 #[.agg #[.int .i64 (-1), .int .i64 8], .int .i64 2] ?_; (with_reducible refine (num_Decimal.calls k (-1) 8 2 t248 t249 _ A3.out).mono ?_); rintro e w78 ⟨rfl, hb⟩; refine ⟨_, rfl, ?_⟩; replace BK243 := Aside0.mk (blk_below (g := gb243) (o := .cells #[.int .i64 t240, .int .i64 t241] 23 (0, 0)) (by refine bf_ ?_ NB243_247; refine bf_ ?_ NB243_247; exact bk_ BK243) hb); replace BK247 := Aside0.mk (blk_below (g := gb247) (o := .cells #[.int .i64 t244, .int .i64 t245] 23 (0, 0)) (by refine bp_ (cs := #[.int .i64 t244, .int .i64 0]) ?_ 1; refine bp_ (cs := #[.int .i64 0, .int .i64 0]) ?_ 0; exact bk_ BK247) hb); replace HB := bws_ HB hb; (try clear hb); (try clear hb2); (try clear hk); (try clear hi)) | ((with_reducible refine gate_callee (f := 39) rfl ?_); refine gla_ (some 27) Try.func39 #[.string (⟨#[49, 46, 50, 53]⟩ : ByteArray)] ?_; (with_reducible refine (num_Parse.calls k (⟨#[49, 46, 50, 53]⟩ : ByteArray) t250 t251 t252 _ A4.out).mono ?_); rintro e w79 ⟨rfl, hb⟩; refine ⟨_, rfl, ?_⟩; replace BK243 := bkb_ BK243 hb; replace BK247 := bkb_ BK247 hb; replace HB := bws_ HB hb; (try clear hb); (try clear hb2); (try clear hk); (try clear hi)) | ((with_reducible refine gate_dst (N := 7) rfl ?_); refine box_event ?hg (N := 7) ?hd (cs := #[.int .i64 0, .int .i64 0]) (t := 23) ?hr ?_; (case hd => rfl); (case hg => rfl); (case hr => first | (go_simp; done) | (go_simp; rfl)); intro gb253 hg w80 hbox hb; have BK253 := Aside0.mk hbox; have GW253 := bwg_ HB hg; have GE253 := bwg_ HB hg; replace HB := bws_ HB hb; have NB243_253 := bkl_ BK243 hg; have NB253_243 := bkr_ BK243 hg; replace BK243 := bkb_ BK243 hb; have NB247_253 := bkl_ BK247 hg; have NB253_247 := bkr_ BK247 hg; replace BK247 := bkb_ BK247 hb; clear hb hbox hg; have hnb81 := NB253_243.out; have hnc81 := NB243_253.out; have hnb82 := NB253_247.out; have hnc82 := NB247_253.out; obtain ⟨hcz83_0, hcz83_1, hfz83_0, hfz83_1⟩ := bc2_ BK253))
          go_ret
          exact ⟨by first | rfl | (simp [*] <;> rfl), bw_ HB⟩
      · rw [if_neg c7] at H
        have c7b0 : (t249 == 0) = false := beq_eq_false_iff_ne.mpr c7
        have c7b1 : (t249 != 0) = true := bne_iff_ne.mpr c7
        obtain rfl := Option.some.inj H
        go_enter Try.func17, Try.ntmps17
        go_wp2_with (first | ((with_reducible refine gate_callee (f := 18) rfl ?_); refine gla_ (some 12) Try.func18 #[.agg #[.int .i64 1, .int .i64 2], .agg #[.int .i64 1, .int .i64 3]] ?_; (with_reducible refine (num_Add.calls k 1 2 1 3 t240 t241 t242 _ A1.out).mono ?_); rintro e w84 ⟨rfl, hb⟩; refine ⟨_, rfl, ?_⟩; replace HB := bws_ HB hb; (try clear hb); (try clear hb2); (try clear hk); (try clear hi)) | ((with_reducible refine gate_dst (N := 1) rfl ?_); refine box_event ?hg (N := 1) ?hd (cs := #[.int .i64 0, .int .i64 0]) (t := 23) ?hr ?_; (case hd => rfl); (case hg => rfl); (case hr => first | (go_simp; done) | (go_simp; rfl)); intro gb243 hg w85 hbox hb; have BK243 := Aside0.mk hbox; have GW243 := bwg_ HB hg; have GE243 := bwg_ HB hg; replace HB := bws_ HB hb; clear hb hbox hg; obtain ⟨hcz86_0, hcz86_1, hfz86_0, hfz86_1⟩ := bc2_ BK243) | ((with_reducible refine gate_callee (f := 25) rfl ?_); refine gla_ (some 18) Try.func25 #[.agg #[.int .i64 1, .int .i64 3], .agg #[.int .i64 1, .int .i64 2]] ?_; (with_reducible refine (num_Simplest.calls k 1 3 1 2 t244 t245 t246 _ A2.out).mono ?_); rintro e w87 ⟨rfl, hb⟩; refine ⟨_, rfl, ?_⟩; replace BK243 := Aside0.mk (blk_below (g := gb243) (o := .cells #[.int .i64 t240, .int .i64 t241] 23 (0, 0)) (by refine bp_ (cs := #[.int .i64 t240, .int .i64 0]) ?_ 1; refine bp_ (cs := #[.int .i64 0, .int .i64 0]) ?_ 0; exact bk_ BK243) hb); replace HB := bws_ HB hb; (try clear hb); (try clear hb2); (try clear hk); (try clear hi)) | ((with_reducible refine gate_dst (N := 3) rfl ?_); refine box_event ?hg (N := 3) ?hd (cs := #[.int .i64 0, .int .i64 0]) (t := 23) ?hr ?_; (case hd => rfl); (case hg => rfl); (case hr => first | (go_simp; done) | (go_simp; rfl)); intro gb247 hg w88 hbox hb; have BK247 := Aside0.mk hbox; have GW247 := bwg_ HB hg; have GE247 := bwg_ HB hg; replace HB := bws_ HB hb; have NB243_247 := bkl_ BK243 hg; have NB247_243 := bkr_ BK243 hg; replace BK243 := bkb_ BK243 hb; clear hb hbox hg; have hnb89 := NB247_243.out; have hnc89 := NB243_247.out; obtain ⟨hcz90_0, hcz90_1, hfz90_0, hfz90_1⟩ := bc2_ BK247) | ((with_reducible refine gate_callee (f := 35) rfl ?_); refine gla_ (some 23) Try.func35 #[.agg #[.int .i64 (-1), .int .i64 8], .int .i64 2] ?_; (with_reducible refine (num_Decimal.calls k (-1) 8 2 t248 t249 _ A3.out).mono ?_); rintro e w91 ⟨rfl, hb⟩; refine ⟨_, rfl, ?_⟩; replace BK243 := Aside0.mk (blk_below (g := gb243) (o := .cells #[.int .i64 t240, .int .i64 t241] 23 (0, 0)) (by refine bf_ ?_ NB243_247; refine bf_ ?_ NB243_247; exact bk_ BK243) hb); replace BK247 := Aside0.mk (blk_below (g := gb247) (o := .cells #[.int .i64 t244, .int .i64 t245] 23 (0, 0)) (by refine bp_ (cs := #[.int .i64 t244, .int .i64 0]) ?_ 1; refine bp_ (cs := #[.int .i64 0, .int .i64 0]) ?_ 0; exact bk_ BK247) hb); replace HB := bws_ HB hb; (try clear hb); (try clear hb2); (try clear hk); (try clear hi)) | ((with_reducible refine gate_callee (f := 39) rfl ?_); refine gla_ (some 27) Try.func39 #[.string (⟨#[49, 46, 50, 53]⟩ : ByteArray)] ?_; (with_reducible refine (num_Parse.calls k (⟨#[49, 46, 50, 53]⟩ : ByteArray) t250 t251 t252 _ A4.out).mono ?_); rintro e w92 ⟨rfl, hb⟩; refine ⟨_, rfl, ?_⟩; replace BK243 := bkb_ BK243 hb; replace BK247 := bkb_ BK247 hb; replace HB := bws_ HB hb; (try clear hb); (try clear hb2); (try clear hk); (try clear hi)) | ((with_reducible refine gate_dst (N := 7) rfl ?_); refine box_event ?hg (N := 7) ?hd (cs := #[.int .i64 0, .int .i64 0]) (t := 23) ?hr ?_; (case hd => rfl); (case hg => rfl); (case hr => first | (go_simp; done) | (go_simp; rfl)); intro gb253 hg w93 hbox hb; have BK253 := Aside0.mk hbox; have GW253 := bwg_ HB hg; have GE253 := bwg_ HB hg; replace HB := bws_ HB hb; have NB243_253 := bkl_ BK243 hg; have NB253_243 := bkr_ BK243 hg; replace BK243 := bkb_ BK243 hb; have NB247_253 := bkl_ BK247 hg; have NB253_247 := bkr_ BK247 hg; replace BK247 := bkb_ BK247 hb; clear hb hbox hg; have hnb94 := NB253_243.out; have hnc94 := NB243_253.out; have hnb95 := NB253_247.out; have hnc95 := NB247_253.out; obtain ⟨hcz96_0, hcz96_1, hfz96_0, hfz96_1⟩ := bc2_ BK253))
        go_ret
        exact ⟨by first | rfl | (simp [*] <;> rfl), bw_ HB⟩
    · rw [if_neg c6] at H
      have c6b0 : (t246 == 0) = false := beq_eq_false_iff_ne.mpr c6
      have c6b1 : (t246 != 0) = true := bne_iff_ne.mpr c6
      obtain rfl := Option.some.inj H
      go_enter Try.func17, Try.ntmps17
      go_wp2_with (first | ((with_reducible refine gate_callee (f := 18) rfl ?_); refine gla_ (some 12) Try.func18 #[.agg #[.int .i64 1, .int .i64 2], .agg #[.int .i64 1, .int .i64 3]] ?_; (with_reducible refine (num_Add.calls k 1 2 1 3 t240 t241 t242 _ A1.out).mono ?_); rintro e w97 ⟨rfl, hb⟩; refine ⟨_, rfl, ?_⟩; replace HB := bws_ HB hb; (try clear hb); (try clear hb2); (try clear hk); (try clear hi)) | ((with_reducible refine gate_dst (N := 1) rfl ?_); refine box_event ?hg (N := 1) ?hd (cs := #[.int .i64 0, .int .i64 0]) (t := 23) ?hr ?_; (case hd => rfl); (case hg => rfl); (case hr => first | (go_simp; done) | (go_simp; rfl)); intro gb243 hg w98 hbox hb; have BK243 := Aside0.mk hbox; have GW243 := bwg_ HB hg; have GE243 := bwg_ HB hg; replace HB := bws_ HB hb; clear hb hbox hg; obtain ⟨hcz99_0, hcz99_1, hfz99_0, hfz99_1⟩ := bc2_ BK243) | ((with_reducible refine gate_callee (f := 25) rfl ?_); refine gla_ (some 18) Try.func25 #[.agg #[.int .i64 1, .int .i64 3], .agg #[.int .i64 1, .int .i64 2]] ?_; (with_reducible refine (num_Simplest.calls k 1 3 1 2 t244 t245 t246 _ A2.out).mono ?_); rintro e w100 ⟨rfl, hb⟩; refine ⟨_, rfl, ?_⟩; replace BK243 := Aside0.mk (blk_below (g := gb243) (o := .cells #[.int .i64 t240, .int .i64 t241] 23 (0, 0)) (by refine bp_ (cs := #[.int .i64 t240, .int .i64 0]) ?_ 1; refine bp_ (cs := #[.int .i64 0, .int .i64 0]) ?_ 0; exact bk_ BK243) hb); replace HB := bws_ HB hb; (try clear hb); (try clear hb2); (try clear hk); (try clear hi)) | ((with_reducible refine gate_dst (N := 3) rfl ?_); refine box_event ?hg (N := 3) ?hd (cs := #[.int .i64 0, .int .i64 0]) (t := 23) ?hr ?_; (case hd => rfl); (case hg => rfl); (case hr => first | (go_simp; done) | (go_simp; rfl)); intro gb247 hg w101 hbox hb; have BK247 := Aside0.mk hbox; have GW247 := bwg_ HB hg; have GE247 := bwg_ HB hg; replace HB := bws_ HB hb; have NB243_247 := bkl_ BK243 hg; have NB247_243 := bkr_ BK243 hg; replace BK243 := bkb_ BK243 hb; clear hb hbox hg; have hnb102 := NB247_243.out; have hnc102 := NB243_247.out; obtain ⟨hcz103_0, hcz103_1, hfz103_0, hfz103_1⟩ := bc2_ BK247) | ((with_reducible refine gate_callee (f := 35) rfl ?_); refine gla_ (some 23) Try.func35 #[.agg #[.int .i64 (-1), .int .i64 8], .int .i64 2] ?_; (with_reducible refine (num_Decimal.calls k (-1) 8 2 t248 t249 _ A3.out).mono ?_); rintro e w104 ⟨rfl, hb⟩; refine ⟨_, rfl, ?_⟩; replace BK243 := Aside0.mk (blk_below (g := gb243) (o := .cells #[.int .i64 t240, .int .i64 t241] 23 (0, 0)) (by refine bf_ ?_ NB243_247; refine bf_ ?_ NB243_247; exact bk_ BK243) hb); replace BK247 := Aside0.mk (blk_below (g := gb247) (o := .cells #[.int .i64 t244, .int .i64 t245] 23 (0, 0)) (by refine bp_ (cs := #[.int .i64 t244, .int .i64 0]) ?_ 1; refine bp_ (cs := #[.int .i64 0, .int .i64 0]) ?_ 0; exact bk_ BK247) hb); replace HB := bws_ HB hb; (try clear hb); (try clear hb2); (try clear hk); (try clear hi)) | ((with_reducible refine gate_callee (f := 39) rfl ?_); refine gla_ (some 27) Try.func39 #[.string (⟨#[49, 46, 50, 53]⟩ : ByteArray)] ?_; (with_reducible refine (num_Parse.calls k (⟨#[49, 46, 50, 53]⟩ : ByteArray) t250 t251 t252 _ A4.out).mono ?_); rintro e w105 ⟨rfl, hb⟩; refine ⟨_, rfl, ?_⟩; replace BK243 := bkb_ BK243 hb; replace BK247 := bkb_ BK247 hb; replace HB := bws_ HB hb; (try clear hb); (try clear hb2); (try clear hk); (try clear hi)) | ((with_reducible refine gate_dst (N := 7) rfl ?_); refine box_event ?hg (N := 7) ?hd (cs := #[.int .i64 0, .int .i64 0]) (t := 23) ?hr ?_; (case hd => rfl); (case hg => rfl); (case hr => first | (go_simp; done) | (go_simp; rfl)); intro gb253 hg w106 hbox hb; have BK253 := Aside0.mk hbox; have GW253 := bwg_ HB hg; have GE253 := bwg_ HB hg; replace HB := bws_ HB hb; have NB243_253 := bkl_ BK243 hg; have NB253_243 := bkr_ BK243 hg; replace BK243 := bkb_ BK243 hb; have NB247_253 := bkl_ BK247 hg; have NB253_247 := bkr_ BK247 hg; replace BK247 := bkb_ BK247 hb; clear hb hbox hg; have hnb107 := NB253_243.out; have hnc107 := NB243_253.out; have hnb108 := NB253_247.out; have hnc108 := NB247_253.out; obtain ⟨hcz109_0, hcz109_1, hfz109_0, hfz109_1⟩ := bc2_ BK253))
      go_ret
      exact ⟨by first | rfl | (simp [*] <;> rfl), bw_ HB⟩
  · rw [if_neg c5] at H
    have c5b0 : (t242 == 0) = false := beq_eq_false_iff_ne.mpr c5
    have c5b1 : (t242 != 0) = true := bne_iff_ne.mpr c5
    obtain rfl := Option.some.inj H
    go_enter Try.func17, Try.ntmps17
    go_wp2_with (first | ((with_reducible refine gate_callee (f := 18) rfl ?_); refine gla_ (some 12) Try.func18 #[.agg #[.int .i64 1, .int .i64 2], .agg #[.int .i64 1, .int .i64 3]] ?_; (with_reducible refine (num_Add.calls k 1 2 1 3 t240 t241 t242 _ A1.out).mono ?_); rintro e w110 ⟨rfl, hb⟩; refine ⟨_, rfl, ?_⟩; replace HB := bws_ HB hb; (try clear hb); (try clear hb2); (try clear hk); (try clear hi)) | ((with_reducible refine gate_dst (N := 1) rfl ?_); refine box_event ?hg (N := 1) ?hd (cs := #[.int .i64 0, .int .i64 0]) (t := 23) ?hr ?_; (case hd => rfl); (case hg => rfl); (case hr => first | (go_simp; done) | (go_simp; rfl)); intro gb243 hg w111 hbox hb; have BK243 := Aside0.mk hbox; have GW243 := bwg_ HB hg; have GE243 := bwg_ HB hg; replace HB := bws_ HB hb; clear hb hbox hg; obtain ⟨hcz112_0, hcz112_1, hfz112_0, hfz112_1⟩ := bc2_ BK243) | ((with_reducible refine gate_callee (f := 25) rfl ?_); refine gla_ (some 18) Try.func25 #[.agg #[.int .i64 1, .int .i64 3], .agg #[.int .i64 1, .int .i64 2]] ?_; (with_reducible refine (num_Simplest.calls k 1 3 1 2 t244 t245 t246 _ A2.out).mono ?_); rintro e w113 ⟨rfl, hb⟩; refine ⟨_, rfl, ?_⟩; replace BK243 := Aside0.mk (blk_below (g := gb243) (o := .cells #[.int .i64 t240, .int .i64 t241] 23 (0, 0)) (by refine bp_ (cs := #[.int .i64 t240, .int .i64 0]) ?_ 1; refine bp_ (cs := #[.int .i64 0, .int .i64 0]) ?_ 0; exact bk_ BK243) hb); replace HB := bws_ HB hb; (try clear hb); (try clear hb2); (try clear hk); (try clear hi)) | ((with_reducible refine gate_dst (N := 3) rfl ?_); refine box_event ?hg (N := 3) ?hd (cs := #[.int .i64 0, .int .i64 0]) (t := 23) ?hr ?_; (case hd => rfl); (case hg => rfl); (case hr => first | (go_simp; done) | (go_simp; rfl)); intro gb247 hg w114 hbox hb; have BK247 := Aside0.mk hbox; have GW247 := bwg_ HB hg; have GE247 := bwg_ HB hg; replace HB := bws_ HB hb; have NB243_247 := bkl_ BK243 hg; have NB247_243 := bkr_ BK243 hg; replace BK243 := bkb_ BK243 hb; clear hb hbox hg; have hnb115 := NB247_243.out; have hnc115 := NB243_247.out; obtain ⟨hcz116_0, hcz116_1, hfz116_0, hfz116_1⟩ := bc2_ BK247) | ((with_reducible refine gate_callee (f := 35) rfl ?_); refine gla_ (some 23) Try.func35 #[.agg #[.int .i64 (-1), .int .i64 8], .int .i64 2] ?_; (with_reducible refine (num_Decimal.calls k (-1) 8 2 t248 t249 _ A3.out).mono ?_); rintro e w117 ⟨rfl, hb⟩; refine ⟨_, rfl, ?_⟩; replace BK243 := Aside0.mk (blk_below (g := gb243) (o := .cells #[.int .i64 t240, .int .i64 t241] 23 (0, 0)) (by refine bf_ ?_ NB243_247; refine bf_ ?_ NB243_247; exact bk_ BK243) hb); replace BK247 := Aside0.mk (blk_below (g := gb247) (o := .cells #[.int .i64 t244, .int .i64 t245] 23 (0, 0)) (by refine bp_ (cs := #[.int .i64 t244, .int .i64 0]) ?_ 1; refine bp_ (cs := #[.int .i64 0, .int .i64 0]) ?_ 0; exact bk_ BK247) hb); replace HB := bws_ HB hb; (try clear hb); (try clear hb2); (try clear hk); (try clear hi)) | ((with_reducible refine gate_callee (f := 39) rfl ?_); refine gla_ (some 27) Try.func39 #[.string (⟨#[49, 46, 50, 53]⟩ : ByteArray)] ?_; (with_reducible refine (num_Parse.calls k (⟨#[49, 46, 50, 53]⟩ : ByteArray) t250 t251 t252 _ A4.out).mono ?_); rintro e w118 ⟨rfl, hb⟩; refine ⟨_, rfl, ?_⟩; replace BK243 := bkb_ BK243 hb; replace BK247 := bkb_ BK247 hb; replace HB := bws_ HB hb; (try clear hb); (try clear hb2); (try clear hk); (try clear hi)) | ((with_reducible refine gate_dst (N := 7) rfl ?_); refine box_event ?hg (N := 7) ?hd (cs := #[.int .i64 0, .int .i64 0]) (t := 23) ?hr ?_; (case hd => rfl); (case hg => rfl); (case hr => first | (go_simp; done) | (go_simp; rfl)); intro gb253 hg w119 hbox hb; have BK253 := Aside0.mk hbox; have GW253 := bwg_ HB hg; have GE253 := bwg_ HB hg; replace HB := bws_ HB hb; have NB243_253 := bkl_ BK243 hg; have NB253_243 := bkr_ BK243 hg; replace BK243 := bkb_ BK243 hb; have NB247_253 := bkl_ BK247 hg; have NB253_247 := bkr_ BK247 hg; replace BK247 := bkb_ BK247 hb; clear hb hbox hg; have hnb120 := NB253_243.out; have hnc120 := NB243_253.out; have hnb121 := NB253_247.out; have hnc121 := NB247_253.out; obtain ⟨hcz122_0, hcz122_1, hfz122_0, hfz122_1⟩ := bc2_ BK253))
    go_ret
    exact ⟨by first | rfl | (simp [*] <;> rfl), bw_ HB⟩
/-! ### num_Sub: function 20 -/
def num_Sub.f (k : Nat) (a0_0 : Int) (a0_1 : Int) (a1_0 : Int) (a1_1 : Int) : Option (Int × Int × Int) := (num_reckon.f k 45 a0_0 a0_1 a1_0 a1_1).bind fun bt263 => (some (bt263.1, bt263.2.1, bt263.2.2))
theorem num_Sub.mono : ∀ a0 a1 a2 a3 k, LeO (num_Sub.f k a0 a1 a2 a3) (num_Sub.f (k + 1) a0 a1 a2 a3) := by
  intro a0 a1 a2 a3 k
  unfold num_Sub.f
  repeat' first
      | (with_reducible exact num_reckon.mono _ _ _ _ _ _)
      | (with_reducible exact LeO.refl _)
      | (with_reducible exact LeO.none _)
      | (with_reducible refine LeO.ite ?_ ?_)
      | (with_reducible refine LeO.bind ?_ (fun _ => ?_))
      | (with_reducible refine LeO.exc (fun _ => ?_) (fun _ => ?_))
      | exact num_reckon.mono _ _ _ _ _ _
      | exact LeO.none _
      | refine LeO.ite ?_ ?_
      | refine LeO.bind ?_ (fun _ => ?_)
set_option maxHeartbeats 8000000 in
set_option maxRecDepth 100000 in
theorem num_Sub.calls (k : Nat) (a0_0 : Int) (a0_1 : Int) (a1_0 : Int) (a1_1 : Int) (r1 : Int) (r2 : Int) (r3 : Int) (w : World) (h : num_Sub.f k a0_0 a0_1 a1_0 a1_1 = some (r1, r2, r3)) :
    Calls Try.prog 20 #[.agg #[.int .i64 a0_0, .int .i64 a0_1], .agg #[.int .i64 a1_0, .int .i64 a1_1]] w fun e w' => e = .returned (.tuple #[.agg #[.int .i64 r1, .int .i64 r2], .int .i64 r3]) ∧ Below w.heap.size w w' := by
  have hu23 := Try.underlying23
  have HB := Aside0.mk (Below.refl w.heap.size w)
  have H : ((num_reckon.f k 45 a0_0 a0_1 a1_0 a1_1).bind fun bt263 => (some (bt263.1, bt263.2.1, bt263.2.2))) = some (r1, r2, r3) := h
  clear h
  replace H := Option.bind_eq_some_iff.mp H
  obtain ⟨⟨t263, t264, t265⟩, A30, H⟩ := H
  replace H : (some (t263, t264, t265)) = some (r1, r2, r3) := H
  have A3 := Aside0.mk A30
  clear A30
  simp only [Option.some.injEq, Prod.mk.injEq] at H
  obtain ⟨rfl, rfl, rfl⟩ := H
  go_enter Try.func20, Try.ntmps20
  go_wp2_with (first | ((with_reducible refine gate_dst (N := 2) rfl ?_); refine box_event ?hg (N := 2) ?hd (cs := #[.int .i64 a0_0, .int .i64 a0_1]) (t := 23) ?hr ?_; (case hd => rfl); (case hg => rfl); (case hr => first | (go_simp; done) | (go_simp; rfl)); intro gb260 hg w4 hbox hb; have BK260 := Aside0.mk hbox; have GW260 := bwg_ HB hg; have GE260 := bwg_ HB hg; replace HB := bws_ HB hb; clear hb hbox hg) | ((with_reducible refine gate_dst (N := 3) rfl ?_); refine box_event ?hg (N := 3) ?hd (cs := #[.int .i64 a1_0, .int .i64 a1_1]) (t := 23) ?hr ?_; (case hd => rfl); (case hg => rfl); (case hr => first | (go_simp; done) | (go_simp; rfl)); intro gb261 hg w5 hbox hb; have BK261 := Aside0.mk hbox; have GW261 := bwg_ HB hg; have GE261 := bwg_ HB hg; replace HB := bws_ HB hb; have NB260_261 := bkl_ BK260 hg; have NB261_260 := bkr_ BK260 hg; replace BK260 := bkb_ BK260 hb; clear hb hbox hg) | ((with_reducible refine gate_dst (N := 4) rfl ?_); refine box_event ?hg (N := 4) ?hd (cs := #[.int .i64 0, .int .i64 0]) (t := 23) ?hr ?_; (case hd => rfl); (case hg => rfl); (case hr => first | (go_simp; done) | (go_simp; rfl)); intro gb262 hg w6 hbox hb; have BK262 := Aside0.mk hbox; have GW262 := bwg_ HB hg; have GE262 := bwg_ HB hg; replace HB := bws_ HB hb; have NB260_262 := bkl_ BK260 hg; have NB262_260 := bkr_ BK260 hg; replace BK260 := bkb_ BK260 hb; have NB261_262 := bkl_ BK261 hg; have NB262_261 := bkr_ BK261 hg; replace BK261 := bkb_ BK261 hb; clear hb hbox hg; have hnb7 := NB260_261.out; have hnc7 := NB261_260.out; have hnb8 := NB260_262.out; have hnc8 := NB262_260.out; obtain ⟨hcz9_0, hcz9_1, hfz9_0, hfz9_1⟩ := bc2_ BK260; have hnb10 := NB261_262.out; have hnc10 := NB262_261.out; obtain ⟨hcz11_0, hcz11_1, hfz11_0, hfz11_1⟩ := bc2_ BK261) | ((with_reducible refine gate_callee (f := 67) rfl ?_); refine gla_ (some 8) Try.func67 #[.int .u8 45, .agg #[.int .i64 a0_0, .int .i64 a0_1], .agg #[.int .i64 a1_0, .int .i64 a1_1]] ?_; (with_reducible refine (num_reckon.calls k 45 a0_0 a0_1 a1_0 a1_1 t263 t264 t265 _ A3.out).mono ?_); rintro e w12 ⟨rfl, hb⟩; refine ⟨_, rfl, ?_⟩; replace BK260 := bkb_ BK260 hb; replace BK261 := bkb_ BK261 hb; replace BK262 := bkb_ BK262 hb; replace HB := bws_ HB hb; (try clear hb); (try clear hb2); (try clear hk); (try clear hi); obtain ⟨hcz13_0, hcz13_1, hfz13_0, hfz13_1⟩ := bc2_ BK262))
  refine bodyPost_ret (results_ct rfl _ _ gb262 23 #[.int .i64 t263, .int .i64 t264] (0, 0) _ rfl (by refine bp_ (cs := #[.int .i64 t263, .int .i64 0]) ?_ 1; refine bp_ (cs := #[.int .i64 0, .int .i64 0]) ?_ 0; exact bk_ BK262) Try.underlying23 rfl (by kernel_rfl)) rfl ?_
  exact ⟨by first | rfl | (simp [*] <;> rfl), bw_ HB⟩
/-! ### withylaw01_NumNearest: function 13 -/
mutual
def withylaw01_NumNearest.j0 : Nat → Int → Bool → Int → Int → Int → Int → Int → Int → Option (Bool)
  | 0, _, _, _, _, _, _, _, _ => none
  | k + 1, x7, x51, x900000, x900001, x901000, x901001, x907000, x907001 => if x51 = true then (some false) else (if x901001 > x7 then ((withylaw01_summed.f k).bind fun t908 => (some t908)) else ((num_Sub.f k x907000 x907001 x900000 x900001).bind fun bt909 => ((num_Sub.f k x901000 x901001 x900000 x900001).bind fun bt913 => (if bt909.2.2 = 0 then (withylaw01_NumNearest.j1 k (bt913.2.2 != 0) x901000 x901001 x907000 x907001 bt909.1 bt909.2.1 bt913.1 bt913.2.1) else (withylaw01_NumNearest.j1 k true x901000 x901001 x907000 x907001 bt909.1 bt909.2.1 bt913.1 bt913.2.1)))))
def withylaw01_NumNearest.j1 : Nat → Bool → Int → Int → Int → Int → Int → Int → Int → Int → Option (Bool)
  | 0, _, _, _, _, _, _, _, _, _ => none
  | k + 1, x74, x901000, x901001, x907000, x907001, x913000, x913001, x917000, x917001 => if x74 = true then ((withylaw01_summed.f k).bind fun t917 => (some t917)) else (if x913000 < 0 then (withylaw01_NumNearest.j2 k x901000 x901001 x907000 x907001 (wrap64 (-x913000)) x913001 x917000 x917001) else (withylaw01_NumNearest.j2 k x901000 x901001 x907000 x907001 x913000 x913001 x917000 x917001))
def withylaw01_NumNearest.j2 : Nat → Int → Int → Int → Int → Int → Int → Int → Int → Option (Bool)
  | 0, _, _, _, _, _, _, _, _ => none
  | k + 1, x901000, x901001, x907000, x907001, x913000, x913001, x917000, x917001 => if x917000 < 0 then ((num_Cmp.f k x913000 x913001 (wrap64 (-x917000)) x917001).bind fun bt918 => (if bt918.2 = 0 then (if bt918.1 < 0 then ((withylaw01_summed.f k).bind fun t920 => (some t920)) else (if bt918.1 = 0 then ((withyref01_Simpler.f x901000 x901001 x907000 x907001).bind fun t921 => (if t921 = true then (some false) else ((withylaw01_summed.f k).bind fun t922 => (some t922)))) else (some false))) else (some false))) else ((num_Cmp.f k x913000 x913001 x917000 x917001).bind fun bt923 => (if bt923.2 = 0 then (if bt923.1 < 0 then ((withylaw01_summed.f k).bind fun t925 => (some t925)) else (if bt923.1 = 0 then ((withyref01_Simpler.f x901000 x901001 x907000 x907001).bind fun t926 => (if t926 = true then (some false) else ((withylaw01_summed.f k).bind fun t927 => (some t927)))) else (some false))) else (some false)))
end
def withylaw01_NumNearest.f (k : Nat) (a0_0 : Int) (a0_1 : Int) (a1_0 : Int) (a1_1 : Int) (a2 : Int) : Option (Bool) := (withylaw01_fit.f k a0_0 a0_1 a1_0 a1_1 a1_0 a1_1).bind fun t901 => (if t901 = true then ((num_Near.f k a0_0 a0_1 (wrap64 (1 + (Int.tmod (wrap64 (a2)) 1000)))).bind fun bt903 => (if bt903.2.2 = 0 then ((withyref01_In.f bt903.2.1 1 (wrap64 (1 + (Int.tmod (wrap64 (a2)) 1000)))).bind fun t907 => (if t907 = true then (if a0_1 ≤ (wrap64 (1 + (Int.tmod (wrap64 (a2)) 1000))) then (withylaw01_NumNearest.j0 k (wrap64 (1 + (Int.tmod (wrap64 (a2)) 1000))) (!(bt903.1 == a0_0) || (!(bt903.2.1 == a0_1))) a0_0 a0_1 a1_0 a1_1 bt903.1 bt903.2.1) else (withylaw01_NumNearest.j0 k (wrap64 (1 + (Int.tmod (wrap64 (a2)) 1000))) false a0_0 a0_1 a1_0 a1_1 bt903.1 bt903.2.1)) else (withylaw01_NumNearest.j0 k (wrap64 (1 + (Int.tmod (wrap64 (a2)) 1000))) true a0_0 a0_1 a1_0 a1_1 bt903.1 bt903.2.1))) else (withylaw01_NumNearest.j0 k (wrap64 (1 + (Int.tmod (wrap64 (a2)) 1000))) true a0_0 a0_1 a1_0 a1_1 bt903.1 bt903.2.1))) else ((withylaw01_summed.f k).bind fun t902 => (some t902)))
theorem withylaw01_NumNearest.mono_l : ∀ k, (∀ y0 y1 y2 y3 y4 y5 y6 y7, LeO (withylaw01_NumNearest.j0 k y0 y1 y2 y3 y4 y5 y6 y7) (withylaw01_NumNearest.j0 (k + 1) y0 y1 y2 y3 y4 y5 y6 y7)) ∧ (∀ y0 y1 y2 y3 y4 y5 y6 y7 y8, LeO (withylaw01_NumNearest.j1 k y0 y1 y2 y3 y4 y5 y6 y7 y8) (withylaw01_NumNearest.j1 (k + 1) y0 y1 y2 y3 y4 y5 y6 y7 y8)) ∧ (∀ y0 y1 y2 y3 y4 y5 y6 y7, LeO (withylaw01_NumNearest.j2 k y0 y1 y2 y3 y4 y5 y6 y7) (withylaw01_NumNearest.j2 (k + 1) y0 y1 y2 y3 y4 y5 y6 y7))
  | 0 => ⟨fun _ _ _ _ _ _ _ _ r h => by simp [withylaw01_NumNearest.j0] at h, fun _ _ _ _ _ _ _ _ _ r h => by simp [withylaw01_NumNearest.j1] at h, fun _ _ _ _ _ _ _ _ r h => by simp [withylaw01_NumNearest.j2] at h⟩
  | k + 1 => by
    obtain ⟨ih0, ih1, ih2⟩ := withylaw01_NumNearest.mono_l k
    refine ⟨?_, ?_, ?_⟩
    · intro y0 y1 y2 y3 y4 y5 y6 y7
      unfold withylaw01_NumNearest.j0
      repeat' first
      | (with_reducible exact ih0 _ _ _ _ _ _ _ _)
      | (with_reducible exact ih1 _ _ _ _ _ _ _ _ _)
      | (with_reducible exact ih2 _ _ _ _ _ _ _ _)
      | (with_reducible exact num_Cmp.mono _ _ _ _ _)
      | (with_reducible exact num_Near.mono _ _ _ _)
      | (with_reducible exact num_Sub.mono _ _ _ _ _)
      | (with_reducible exact withylaw01_fit.mono _ _ _ _ _ _ _)
      | (with_reducible exact withylaw01_summed.mono _)
      | (with_reducible exact LeO.refl _)
      | (with_reducible exact LeO.none _)
      | (with_reducible refine LeO.ite ?_ ?_)
      | (with_reducible refine LeO.bind ?_ (fun _ => ?_))
      | (with_reducible refine LeO.exc (fun _ => ?_) (fun _ => ?_))
      | exact ih0 _ _ _ _ _ _ _ _
      | exact ih1 _ _ _ _ _ _ _ _ _
      | exact ih2 _ _ _ _ _ _ _ _
      | exact num_Cmp.mono _ _ _ _ _
      | exact num_Near.mono _ _ _ _
      | exact num_Sub.mono _ _ _ _ _
      | exact withylaw01_fit.mono _ _ _ _ _ _ _
      | exact withylaw01_summed.mono _
      | exact LeO.none _
      | refine LeO.ite ?_ ?_
      | refine LeO.bind ?_ (fun _ => ?_)
    · intro y0 y1 y2 y3 y4 y5 y6 y7 y8
      unfold withylaw01_NumNearest.j1
      repeat' first
      | (with_reducible exact ih0 _ _ _ _ _ _ _ _)
      | (with_reducible exact ih1 _ _ _ _ _ _ _ _ _)
      | (with_reducible exact ih2 _ _ _ _ _ _ _ _)
      | (with_reducible exact num_Cmp.mono _ _ _ _ _)
      | (with_reducible exact num_Near.mono _ _ _ _)
      | (with_reducible exact num_Sub.mono _ _ _ _ _)
      | (with_reducible exact withylaw01_fit.mono _ _ _ _ _ _ _)
      | (with_reducible exact withylaw01_summed.mono _)
      | (with_reducible exact LeO.refl _)
      | (with_reducible exact LeO.none _)
      | (with_reducible refine LeO.ite ?_ ?_)
      | (with_reducible refine LeO.bind ?_ (fun _ => ?_))
      | (with_reducible refine LeO.exc (fun _ => ?_) (fun _ => ?_))
      | exact ih0 _ _ _ _ _ _ _ _
      | exact ih1 _ _ _ _ _ _ _ _ _
      | exact ih2 _ _ _ _ _ _ _ _
      | exact num_Cmp.mono _ _ _ _ _
      | exact num_Near.mono _ _ _ _
      | exact num_Sub.mono _ _ _ _ _
      | exact withylaw01_fit.mono _ _ _ _ _ _ _
      | exact withylaw01_summed.mono _
      | exact LeO.none _
      | refine LeO.ite ?_ ?_
      | refine LeO.bind ?_ (fun _ => ?_)
    · intro y0 y1 y2 y3 y4 y5 y6 y7
      unfold withylaw01_NumNearest.j2
      repeat' first
      | (with_reducible exact ih0 _ _ _ _ _ _ _ _)
      | (with_reducible exact ih1 _ _ _ _ _ _ _ _ _)
      | (with_reducible exact ih2 _ _ _ _ _ _ _ _)
      | (with_reducible exact num_Cmp.mono _ _ _ _ _)
      | (with_reducible exact num_Near.mono _ _ _ _)
      | (with_reducible exact num_Sub.mono _ _ _ _ _)
      | (with_reducible exact withylaw01_fit.mono _ _ _ _ _ _ _)
      | (with_reducible exact withylaw01_summed.mono _)
      | (with_reducible exact LeO.refl _)
      | (with_reducible exact LeO.none _)
      | (with_reducible refine LeO.ite ?_ ?_)
      | (with_reducible refine LeO.bind ?_ (fun _ => ?_))
      | (with_reducible refine LeO.exc (fun _ => ?_) (fun _ => ?_))
      | exact ih0 _ _ _ _ _ _ _ _
      | exact ih1 _ _ _ _ _ _ _ _ _
      | exact ih2 _ _ _ _ _ _ _ _
      | exact num_Cmp.mono _ _ _ _ _
      | exact num_Near.mono _ _ _ _
      | exact num_Sub.mono _ _ _ _ _
      | exact withylaw01_fit.mono _ _ _ _ _ _ _
      | exact withylaw01_summed.mono _
      | exact LeO.none _
      | refine LeO.ite ?_ ?_
      | refine LeO.bind ?_ (fun _ => ?_)
theorem withylaw01_NumNearest.mono : ∀ a0 a1 a2 a3 a4 k, LeO (withylaw01_NumNearest.f k a0 a1 a2 a3 a4) (withylaw01_NumNearest.f (k + 1) a0 a1 a2 a3 a4) := by
  intro a0 a1 a2 a3 a4 k
  obtain ⟨ih0, ih1, ih2⟩ := withylaw01_NumNearest.mono_l k
  unfold withylaw01_NumNearest.f
  repeat' first
      | (with_reducible exact ih0 _ _ _ _ _ _ _ _)
      | (with_reducible exact ih1 _ _ _ _ _ _ _ _ _)
      | (with_reducible exact ih2 _ _ _ _ _ _ _ _)
      | (with_reducible exact num_Cmp.mono _ _ _ _ _)
      | (with_reducible exact num_Near.mono _ _ _ _)
      | (with_reducible exact num_Sub.mono _ _ _ _ _)
      | (with_reducible exact withylaw01_fit.mono _ _ _ _ _ _ _)
      | (with_reducible exact withylaw01_summed.mono _)
      | (with_reducible exact LeO.refl _)
      | (with_reducible exact LeO.none _)
      | (with_reducible refine LeO.ite ?_ ?_)
      | (with_reducible refine LeO.bind ?_ (fun _ => ?_))
      | (with_reducible refine LeO.exc (fun _ => ?_) (fun _ => ?_))
      | exact ih0 _ _ _ _ _ _ _ _
      | exact ih1 _ _ _ _ _ _ _ _ _
      | exact ih2 _ _ _ _ _ _ _ _
      | exact num_Cmp.mono _ _ _ _ _
      | exact num_Near.mono _ _ _ _
      | exact num_Sub.mono _ _ _ _ _
      | exact withylaw01_fit.mono _ _ _ _ _ _ _
      | exact withylaw01_summed.mono _
      | exact LeO.none _
      | refine LeO.ite ?_ ?_
      | refine LeO.bind ?_ (fun _ => ?_)
set_option maxHeartbeats 8000000 in
set_option maxRecDepth 100000 in
theorem withylaw01_NumNearest.calls (k : Nat) (a0_0 : Int) (a0_1 : Int) (a1_0 : Int) (a1_1 : Int) (a2 : Int) (r : Bool) (w : World) (h : withylaw01_NumNearest.f k a0_0 a0_1 a1_0 a1_1 a2 = some r) :
    Calls Try.prog 13 #[.agg #[.int .i64 a0_0, .int .i64 a0_1], .agg #[.int .i64 a1_0, .int .i64 a1_1], .int .u16 a2] w fun e w' => e = .returned (.bool r) ∧ Below w.heap.size w w' := by
 have hu23 := Try.underlying23
 have HB := Aside0.mk (Below.refl w.heap.size w)
 have H : ((withylaw01_fit.f k a0_0 a0_1 a1_0 a1_1 a1_0 a1_1).bind fun t901 => (if t901 = true then ((num_Near.f k a0_0 a0_1 (wrap64 (1 + (Int.tmod (wrap64 (a2)) 1000)))).bind fun bt903 => (if bt903.2.2 = 0 then ((withyref01_In.f bt903.2.1 1 (wrap64 (1 + (Int.tmod (wrap64 (a2)) 1000)))).bind fun t907 => (if t907 = true then (if a0_1 ≤ (wrap64 (1 + (Int.tmod (wrap64 (a2)) 1000))) then (withylaw01_NumNearest.j0 k (wrap64 (1 + (Int.tmod (wrap64 (a2)) 1000))) (!(bt903.1 == a0_0) || (!(bt903.2.1 == a0_1))) a0_0 a0_1 a1_0 a1_1 bt903.1 bt903.2.1) else (withylaw01_NumNearest.j0 k (wrap64 (1 + (Int.tmod (wrap64 (a2)) 1000))) false a0_0 a0_1 a1_0 a1_1 bt903.1 bt903.2.1)) else (withylaw01_NumNearest.j0 k (wrap64 (1 + (Int.tmod (wrap64 (a2)) 1000))) true a0_0 a0_1 a1_0 a1_1 bt903.1 bt903.2.1))) else (withylaw01_NumNearest.j0 k (wrap64 (1 + (Int.tmod (wrap64 (a2)) 1000))) true a0_0 a0_1 a1_0 a1_1 bt903.1 bt903.2.1))) else ((withylaw01_summed.f k).bind fun t902 => (some t902)))) = some r := h
 clear h
 replace H := Option.bind_eq_some_iff.mp H
 obtain ⟨t901, A40, H⟩ := H
 replace H : (if t901 = true then ((num_Near.f k a0_0 a0_1 (wrap64 (1 + (Int.tmod (wrap64 (a2)) 1000)))).bind fun bt903 => (if bt903.2.2 = 0 then ((withyref01_In.f bt903.2.1 1 (wrap64 (1 + (Int.tmod (wrap64 (a2)) 1000)))).bind fun t907 => (if t907 = true then (if a0_1 ≤ (wrap64 (1 + (Int.tmod (wrap64 (a2)) 1000))) then (withylaw01_NumNearest.j0 k (wrap64 (1 + (Int.tmod (wrap64 (a2)) 1000))) (!(bt903.1 == a0_0) || (!(bt903.2.1 == a0_1))) a0_0 a0_1 a1_0 a1_1 bt903.1 bt903.2.1) else (withylaw01_NumNearest.j0 k (wrap64 (1 + (Int.tmod (wrap64 (a2)) 1000))) false a0_0 a0_1 a1_0 a1_1 bt903.1 bt903.2.1)) else (withylaw01_NumNearest.j0 k (wrap64 (1 + (Int.tmod (wrap64 (a2)) 1000))) true a0_0 a0_1 a1_0 a1_1 bt903.1 bt903.2.1))) else (withylaw01_NumNearest.j0 k (wrap64 (1 + (Int.tmod (wrap64 (a2)) 1000))) true a0_0 a0_1 a1_0 a1_1 bt903.1 bt903.2.1))) else ((withylaw01_summed.f k).bind fun t902 => (some t902))) = some r := H
 have A4 := Aside0.mk A40
 clear A40
 by_cases c5 : t901 = true
 · subst c5
   have H1 : ((num_Near.f k a0_0 a0_1 (wrap64 (1 + (Int.tmod (wrap64 (a2)) 1000)))).bind fun bt903 => (if bt903.2.2 = 0 then ((withyref01_In.f bt903.2.1 1 (wrap64 (1 + (Int.tmod (wrap64 (a2)) 1000)))).bind fun t907 => (if t907 = true then (if a0_1 ≤ (wrap64 (1 + (Int.tmod (wrap64 (a2)) 1000))) then (withylaw01_NumNearest.j0 k (wrap64 (1 + (Int.tmod (wrap64 (a2)) 1000))) (!(bt903.1 == a0_0) || (!(bt903.2.1 == a0_1))) a0_0 a0_1 a1_0 a1_1 bt903.1 bt903.2.1) else (withylaw01_NumNearest.j0 k (wrap64 (1 + (Int.tmod (wrap64 (a2)) 1000))) false a0_0 a0_1 a1_0 a1_1 bt903.1 bt903.2.1)) else (withylaw01_NumNearest.j0 k (wrap64 (1 + (Int.tmod (wrap64 (a2)) 1000))) true a0_0 a0_1 a1_0 a1_1 bt903.1 bt903.2.1))) else (withylaw01_NumNearest.j0 k (wrap64 (1 + (Int.tmod (wrap64 (a2)) 1000))) true a0_0 a0_1 a1_0 a1_1 bt903.1 bt903.2.1))) = some r := by rw [if_pos rfl] at H; exact H
   clear H
   have H := H1
   clear H1
   replace H := Option.bind_eq_some_iff.mp H
   obtain ⟨⟨t903, t904, t905⟩, A60, H⟩ := H
   replace H : (if t905 = 0 then ((withyref01_In.f t904 1 (wrap64 (1 + (Int.tmod (wrap64 (a2)) 1000)))).bind fun t907 => (if t907 = true then (if a0_1 ≤ (wrap64 (1 + (Int.tmod (wrap64 (a2)) 1000))) then (withylaw01_NumNearest.j0 k (wrap64 (1 + (Int.tmod (wrap64 (a2)) 1000))) (!(t903 == a0_0) || (!(t904 == a0_1))) a0_0 a0_1 a1_0 a1_1 t903 t904) else (withylaw01_NumNearest.j0 k (wrap64 (1 + (Int.tmod (wrap64 (a2)) 1000))) false a0_0 a0_1 a1_0 a1_1 t903 t904)) else (withylaw01_NumNearest.j0 k (wrap64 (1 + (Int.tmod (wrap64 (a2)) 1000))) true a0_0 a0_1 a1_0 a1_1 t903 t904))) else (withylaw01_NumNearest.j0 k (wrap64 (1 + (Int.tmod (wrap64 (a2)) 1000))) true a0_0 a0_1 a1_0 a1_1 t903 t904)) = some r := H
   have A6 := Aside0.mk A60
   clear A60
   have HC7 := Aside0.mk H
   clear H
   as_aux_lemma =>
    go_enter Try.func13, Try.ntmps13
    go_upto_region 5 with (first | ((with_reducible refine gate_dst (N := 3) rfl ?_); refine box_event ?hg (N := 3) ?hd (cs := #[.int .i64 a0_0, .int .i64 a0_1]) (t := 23) ?hr ?_; (case hd => rfl); (case hg => rfl); (case hr => first | (go_simp; done) | (go_simp; rfl)); intro gb899 hg w8 hbox hb; have BK899 := Aside0.mk hbox; have GW899 := bwg_ HB hg; have GE899 := bwg_ HB hg; replace HB := bws_ HB hb; clear hb hbox hg) | ((with_reducible refine gate_dst (N := 4) rfl ?_); refine box_event ?hg (N := 4) ?hd (cs := #[.int .i64 a1_0, .int .i64 a1_1]) (t := 23) ?hr ?_; (case hd => rfl); (case hg => rfl); (case hr => first | (go_simp; done) | (go_simp; rfl)); intro gb900 hg w9 hbox hb; have BK900 := Aside0.mk hbox; have GW900 := bwg_ HB hg; have GE900 := bwg_ HB hg; replace HB := bws_ HB hb; have NB899_900 := bkl_ BK899 hg; have NB900_899 := bkr_ BK899 hg; replace BK899 := bkb_ BK899 hb; clear hb hbox hg; have hnb10 := NB899_900.out; have hnc10 := NB900_899.out; obtain ⟨hcz11_0, hcz11_1, hfz11_0, hfz11_1⟩ := bc2_ BK899; obtain ⟨hcz12_0, hcz12_1, hfz12_0, hfz12_1⟩ := bc2_ BK900) | ((with_reducible refine gate_callee (f := 16) rfl ?_); refine gla_ (some 19) Try.func16 #[.agg #[.int .i64 a0_0, .int .i64 a0_1], .agg #[.int .i64 a1_0, .int .i64 a1_1], .agg #[.int .i64 a1_0, .int .i64 a1_1]] ?_; (with_reducible refine (withylaw01_fit.calls k a0_0 a0_1 a1_0 a1_1 a1_0 a1_1 true _ A4.out).mono ?_); rintro e w13 ⟨rfl, hb⟩; refine ⟨_, rfl, ?_⟩; replace BK899 := bkb_ BK899 hb; replace BK900 := bkb_ BK900 hb; replace HB := bws_ HB hb; (try clear hb); (try clear hb2); (try clear hk); (try clear hi); obtain ⟨hcz14_0, hcz14_1, hfz14_0, hfz14_1⟩ := bc2_ BK899) | ((with_reducible refine gate_callee (f := 59) rfl ?_); refine gla_ (some 29) Try.func59 #[.agg #[.int .i64 a0_0, .int .i64 a0_1], .int .i64 (wrap64 (1 + (Int.tmod (wrap64 (a2)) 1000)))] ?_; (with_reducible refine (num_Near.calls k a0_0 a0_1 (wrap64 (1 + (Int.tmod (wrap64 (a2)) 1000))) t903 t904 t905 _ A6.out).mono ?_); rintro e w15 ⟨rfl, hb⟩; refine ⟨_, rfl, ?_⟩; replace BK899 := bkb_ BK899 hb; replace BK900 := bkb_ BK900 hb; replace HB := bws_ HB hb; (try clear hb); (try clear hb2); (try clear hk); (try clear hi)) | ((with_reducible refine gate_dst (N := 8) rfl ?_); refine box_event ?hg (N := 8) ?hd (cs := #[.int .i64 0, .int .i64 0]) (t := 23) ?hr ?_; (case hd => rfl); (case hg => rfl); (case hr => first | (go_simp; done) | (go_simp; rfl)); intro gb906 hg w16 hbox hb; have BK906 := Aside0.mk hbox; have GW906 := bwg_ HB hg; have GE906 := bwg_ HB hg; replace HB := bws_ HB hb; have NB899_906 := bkl_ BK899 hg; have NB906_899 := bkr_ BK899 hg; replace BK899 := bkb_ BK899 hb; have NB900_906 := bkl_ BK900 hg; have NB906_900 := bkr_ BK900 hg; replace BK900 := bkb_ BK900 hb; clear hb hbox hg; have hnb17 := NB906_899.out; have hnc17 := NB899_906.out; have hnb18 := NB906_900.out; have hnc18 := NB900_906.out; obtain ⟨hcz19_0, hcz19_1, hfz19_0, hfz19_1⟩ := bc2_ BK906))
    (try simp only [Act.put, List.setIfInBounds_toArray, List.set_cons_zero, List.set_cons_succ])
    go_cut [51] (fun v51 wc => ∃ (kq : Nat) (x51_6 : Bool), v51 = .bool x51_6 ∧ Aside0 (withylaw01_NumNearest.j0 kq (wrap64 (1 + (Int.tmod (wrap64 (a2)) 1000))) x51_6 a0_0 a0_1 a1_0 a1_1 t903 t904 = some r) ∧ Aside0 (kq ≤ k) ∧ Aside0 (wc.heap[gb899]? = some (.cells #[.int .i64 a0_0, .int .i64 a0_1] 23 (0, 0))) ∧ Aside0 (wc.heap[gb900]? = some (.cells #[.int .i64 a1_0, .int .i64 a1_1] 23 (0, 0))) ∧ Aside0 (wc.heap[gb906]? = some (.cells #[.int .i64 t903, .int .i64 t904] 23 (0, 0))) ∧ Aside0 (Below w.heap.size w wc))
    case first =>
     as_aux_lemma =>
      have H := HC7.out
      clear HC7
      by_cases c20 : t905 = 0
      · rw [if_pos c20] at H
        have c20b0 : (t905 == 0) = true := beq_iff_eq.mpr c20
        have c20b1 : (t905 != 0) = false := bne_eq_false_iff_eq.mpr c20
        clear c20
        (first | rw [c20b0] | (simp only [i64_w, i32_w]; rw [c20b0]) | skip)
        replace H := Option.bind_eq_some_iff.mp H
        obtain ⟨t907, A210, H⟩ := H
        replace H : (if t907 = true then (if a0_1 ≤ (wrap64 (1 + (Int.tmod (wrap64 (a2)) 1000))) then (withylaw01_NumNearest.j0 k (wrap64 (1 + (Int.tmod (wrap64 (a2)) 1000))) (!(t903 == a0_0) || (!(t904 == a0_1))) a0_0 a0_1 a1_0 a1_1 t903 t904) else (withylaw01_NumNearest.j0 k (wrap64 (1 + (Int.tmod (wrap64 (a2)) 1000))) false a0_0 a0_1 a1_0 a1_1 t903 t904)) else (withylaw01_NumNearest.j0 k (wrap64 (1 + (Int.tmod (wrap64 (a2)) 1000))) true a0_0 a0_1 a1_0 a1_1 t903 t904)) = some r := H
        have A21 := Aside0.mk A210
        clear A210
        by_cases c22 : t907 = true
        · subst c22
          have H1 : (if a0_1 ≤ (wrap64 (1 + (Int.tmod (wrap64 (a2)) 1000))) then (withylaw01_NumNearest.j0 k (wrap64 (1 + (Int.tmod (wrap64 (a2)) 1000))) (!(t903 == a0_0) || (!(t904 == a0_1))) a0_0 a0_1 a1_0 a1_1 t903 t904) else (withylaw01_NumNearest.j0 k (wrap64 (1 + (Int.tmod (wrap64 (a2)) 1000))) false a0_0 a0_1 a1_0 a1_1 t903 t904)) = some r := by rw [if_pos rfl] at H; exact H
          clear H
          have H := H1
          clear H1
          by_cases c23 : a0_1 ≤ (wrap64 (1 + (Int.tmod (wrap64 (a2)) 1000)))
          · rw [if_pos c23] at H
            have c23b0 : decide (a0_1 ≤ (wrap64 (1 + (Int.tmod (wrap64 (a2)) 1000)))) = true := decide_eq_true c23
            clear c23
            have H' := Aside0.mk H
            clear H
            have hnb24 := NB906_899.out
            have hnc24 := NB899_906.out
            have hnb25 := NB906_900.out
            have hnc25 := NB900_906.out
            obtain ⟨hcz26_0, hcz26_1, hfz26_0, hfz26_1⟩ := bc2_ BK906
            go_wp2_with (first | (go_at_call 42; (with_reducible refine (withyref01_In.calls t904 1 (wrap64 (1 + (Int.tmod (wrap64 (a2)) 1000))) true _ A21.out).mono ?_); rintro e w' ⟨rfl, ⟨nd, rfl⟩⟩; have hnb27 := NB899_900.out; have hnc27 := NB900_899.out; obtain ⟨hcz28_0, hcz28_1, hfz28_0, hfz28_1⟩ := bc2_ BK899))
            go_meet
            case rel => exact ⟨_, ((!(t903 == a0_0) || (!(t904 == a0_1)))), (by first | rfl | (simp; done) | (simp [*]; done)), H', ⟨by first | omega | exact Nat.le_refl _⟩, ⟨by refine bf_ ?_ NB899_906; refine bf_ ?_ NB899_906; exact bk_ BK899⟩, ⟨by refine bf_ ?_ NB900_906; refine bf_ ?_ NB900_906; exact bk_ BK900⟩, ⟨by refine bp_ (cs := #[.int .i64 t903, .int .i64 0]) ?_ 1; refine bp_ (cs := #[.int .i64 0, .int .i64 0]) ?_ 0; exact bk_ BK906⟩, ⟨bw_ HB⟩⟩
          · rw [if_neg c23] at H
            have c23b0 : decide (a0_1 ≤ (wrap64 (1 + (Int.tmod (wrap64 (a2)) 1000)))) = false := decide_eq_false c23
            clear c23
            have H' := Aside0.mk H
            clear H
            have hnb29 := NB906_899.out
            have hnc29 := NB899_906.out
            have hnb30 := NB906_900.out
            have hnc30 := NB900_906.out
            obtain ⟨hcz31_0, hcz31_1, hfz31_0, hfz31_1⟩ := bc2_ BK906
            go_wp2_with (first | (go_at_call 42; (with_reducible refine (withyref01_In.calls t904 1 (wrap64 (1 + (Int.tmod (wrap64 (a2)) 1000))) true _ A21.out).mono ?_); rintro e w' ⟨rfl, ⟨nd, rfl⟩⟩; have hnb32 := NB899_900.out; have hnc32 := NB900_899.out; obtain ⟨hcz33_0, hcz33_1, hfz33_0, hfz33_1⟩ := bc2_ BK899))
            go_meet
            case rel => exact ⟨_, (false), (by first | rfl | (simp; done) | (simp [*]; done)), H', ⟨by first | omega | exact Nat.le_refl _⟩, ⟨by refine bf_ ?_ NB899_906; refine bf_ ?_ NB899_906; exact bk_ BK899⟩, ⟨by refine bf_ ?_ NB900_906; refine bf_ ?_ NB900_906; exact bk_ BK900⟩, ⟨by refine bp_ (cs := #[.int .i64 t903, .int .i64 0]) ?_ 1; refine bp_ (cs := #[.int .i64 0, .int .i64 0]) ?_ 0; exact bk_ BK906⟩, ⟨bw_ HB⟩⟩
        · replace c22 := Bool.eq_false_iff.mpr c22
          subst c22
          have H1 : (withylaw01_NumNearest.j0 k (wrap64 (1 + (Int.tmod (wrap64 (a2)) 1000))) true a0_0 a0_1 a1_0 a1_1 t903 t904) = some r := by rw [if_neg (show ¬ (false = true) by decide)] at H; exact H
          clear H
          have H := H1
          clear H1
          have H' := Aside0.mk H
          clear H
          have hnb34 := NB906_899.out
          have hnc34 := NB899_906.out
          have hnb35 := NB906_900.out
          have hnc35 := NB900_906.out
          obtain ⟨hcz36_0, hcz36_1, hfz36_0, hfz36_1⟩ := bc2_ BK906
          go_wp2_with (first | (go_at_call 42; (with_reducible refine (withyref01_In.calls t904 1 (wrap64 (1 + (Int.tmod (wrap64 (a2)) 1000))) false _ A21.out).mono ?_); rintro e w' ⟨rfl, ⟨nd, rfl⟩⟩))
          go_meet
          case rel => exact ⟨_, (true), (by first | rfl | (simp; done) | (simp [*]; done)), H', ⟨by first | omega | exact Nat.le_refl _⟩, ⟨by refine bf_ ?_ NB899_906; refine bf_ ?_ NB899_906; exact bk_ BK899⟩, ⟨by refine bf_ ?_ NB900_906; refine bf_ ?_ NB900_906; exact bk_ BK900⟩, ⟨by refine bp_ (cs := #[.int .i64 t903, .int .i64 0]) ?_ 1; refine bp_ (cs := #[.int .i64 0, .int .i64 0]) ?_ 0; exact bk_ BK906⟩, ⟨bw_ HB⟩⟩
      · rw [if_neg c20] at H
        have c20b0 : (t905 == 0) = false := beq_eq_false_iff_ne.mpr c20
        have c20b1 : (t905 != 0) = true := bne_iff_ne.mpr c20
        (first | rw [c20b0] | (simp only [i64_w, i32_w]; rw [c20b0]) | skip)
        have H' := Aside0.mk H
        clear H
        go_wp2
        go_meet
        case rel => exact ⟨_, (true), (by first | rfl | (simp; done) | (simp [*]; done)), H', ⟨by first | omega | exact Nat.le_refl _⟩, ⟨by refine bf_ ?_ NB899_906; refine bf_ ?_ NB899_906; exact bk_ BK899⟩, ⟨by refine bf_ ?_ NB900_906; refine bf_ ?_ NB900_906; exact bk_ BK900⟩, ⟨by refine bp_ (cs := #[.int .i64 t903, .int .i64 0]) ?_ 1; refine bp_ (cs := #[.int .i64 0, .int .i64 0]) ?_ 0; exact bk_ BK906⟩, ⟨bw_ HB⟩⟩
    case rest =>
     as_aux_lemma =>
      clear HC7
      try clear c1
      try clear c2
      try clear p2
      try clear c3
      try clear c5
      try clear p6
      try clear c10
      try clear c13
      try clear c16
      try clear c17
      try clear c18
      try clear c20
      try clear c20b0
      try clear c20b1
      try clear c22
      try clear c23
      try clear c23b0
      try clear c24
      try clear c25
      try clear c27
      try clear c29
      try clear c30
      try clear c32
      try clear c34
      try clear c35
      try clear hcz11_0
      try clear hcz11_1
      try clear hcz12_0
      try clear hcz12_1
      try clear hcz14_0
      try clear hcz14_1
      try clear hcz19_0
      try clear hcz19_1
      try clear hcz26_0
      try clear hcz26_1
      try clear hcz28_0
      try clear hcz28_1
      try clear hcz31_0
      try clear hcz31_1
      try clear hcz33_0
      try clear hcz33_1
      try clear hcz36_0
      try clear hcz36_1
      try clear hfz11_0
      try clear hfz11_1
      try clear hfz12_0
      try clear hfz12_1
      try clear hfz14_0
      try clear hfz14_1
      try clear hfz19_0
      try clear hfz19_1
      try clear hfz26_0
      try clear hfz26_1
      try clear hfz28_0
      try clear hfz28_1
      try clear hfz31_0
      try clear hfz31_1
      try clear hfz33_0
      try clear hfz33_1
      try clear hfz36_0
      try clear hfz36_1
      obtain ⟨kq, x51_6, rfl, HA, HJ6, BK899, BK900, BK906, HB⟩ := hcut
      cases kq with
      | zero => exact absurd HA.out (by simp [withylaw01_NumNearest.j0])
      | succ kj6 =>
       have H := HA.out
       clear HA
       simp only [withylaw01_NumNearest.j0] at H
       by_cases c37 : x51_6 = true
       · subst c37
         have H1 : (some false) = some r := by rw [if_pos rfl] at H; exact H
         clear H
         have H := H1
         clear H1
         obtain rfl := Option.some.inj H
         go_wp2
         go_ret
         exact ⟨by first | rfl | (simp [*] <;> rfl), bw_ HB⟩
       · replace c37 := Bool.eq_false_iff.mpr c37
         subst c37
         have H1 : (if a1_1 > (wrap64 (1 + (Int.tmod (wrap64 (a2)) 1000))) then ((withylaw01_summed.f kj6).bind fun t908 => (some t908)) else ((num_Sub.f kj6 t903 t904 a0_0 a0_1).bind fun bt909 => ((num_Sub.f kj6 a1_0 a1_1 a0_0 a0_1).bind fun bt913 => (if bt909.2.2 = 0 then (withylaw01_NumNearest.j1 kj6 (bt913.2.2 != 0) a1_0 a1_1 t903 t904 bt909.1 bt909.2.1 bt913.1 bt913.2.1) else (withylaw01_NumNearest.j1 kj6 true a1_0 a1_1 t903 t904 bt909.1 bt909.2.1 bt913.1 bt913.2.1))))) = some r := by rw [if_neg (show ¬ (false = true) by decide)] at H; exact H
         clear H
         have H := H1
         clear H1
         by_cases c38 : a1_1 > (wrap64 (1 + (Int.tmod (wrap64 (a2)) 1000)))
         · rw [if_pos c38] at H
           have c38b0 : decide ((wrap64 (1 + (Int.tmod (wrap64 (a2)) 1000))) < a1_1) = true := decide_eq_true c38
           clear c38
           replace H := Option.bind_eq_some_iff.mp H
           obtain ⟨t908, A390, H⟩ := H
           replace H : (some t908) = some r := H
           have A39 := Aside0.mk A390
           clear A390
           obtain rfl := Option.some.inj H
           have hnb40 := NB900_899.out
           have hnc40 := NB899_900.out
           have hnb41 := NB900_906.out
           have hnc41 := NB906_900.out
           obtain ⟨hcz42_0, hcz42_1, hfz42_0, hfz42_1⟩ := bc2_ BK900
           go_wp2_with (first | ((with_reducible refine gate_callee (f := 17) rfl ?_); refine gla_ (some 56) Try.func17 #[] ?_; (with_reducible refine (withylaw01_summed.calls kj6  t908 _ A39.out).mono ?_); rintro e w43 ⟨rfl, hb⟩; refine ⟨_, rfl, ?_⟩; replace BK899 := bkb_ BK899 hb; replace BK900 := bkb_ BK900 hb; replace BK906 := bkb_ BK906 hb; replace HB := bws_ HB hb; (try clear hb); (try clear hb2); (try clear hk); (try clear hi)))
           go_ret
           exact ⟨by first | rfl | (simp [*] <;> rfl), bw_ HB⟩
         · rw [if_neg c38] at H
           have c38b0 : decide ((wrap64 (1 + (Int.tmod (wrap64 (a2)) 1000))) < a1_1) = false := decide_eq_false c38
           clear c38
           replace H := Option.bind_eq_some_iff.mp H
           obtain ⟨⟨t909, t910, t911⟩, A440, H⟩ := H
           replace H : ((num_Sub.f kj6 a1_0 a1_1 a0_0 a0_1).bind fun bt913 => (if t911 = 0 then (withylaw01_NumNearest.j1 kj6 (bt913.2.2 != 0) a1_0 a1_1 t903 t904 t909 t910 bt913.1 bt913.2.1) else (withylaw01_NumNearest.j1 kj6 true a1_0 a1_1 t903 t904 t909 t910 bt913.1 bt913.2.1))) = some r := H
           have A44 := Aside0.mk A440
           clear A440
           replace H := Option.bind_eq_some_iff.mp H
           obtain ⟨⟨t913, t914, t915⟩, A450, H⟩ := H
           replace H : (if t911 = 0 then (withylaw01_NumNearest.j1 kj6 (t915 != 0) a1_0 a1_1 t903 t904 t909 t910 t913 t914) else (withylaw01_NumNearest.j1 kj6 true a1_0 a1_1 t903 t904 t909 t910 t913 t914)) = some r := H
           have A45 := Aside0.mk A450
           clear A450
           have HC46 := Aside0.mk H
           clear H
           have hnb47 := NB900_899.out
           have hnc47 := NB899_900.out
           have hnb48 := NB900_906.out
           have hnc48 := NB906_900.out
           obtain ⟨hcz49_0, hcz49_1, hfz49_0, hfz49_1⟩ := bc2_ BK900
           have hnb50 := NB906_899.out
           have hnc50 := NB899_906.out
           obtain ⟨hcz51_0, hcz51_1, hfz51_0, hfz51_1⟩ := bc2_ BK906
           obtain ⟨hcz52_0, hcz52_1, hfz52_0, hfz52_1⟩ := bc2_ BK899
           go_upto_region 11 with (first | ((with_reducible refine gate_callee (f := 20) rfl ?_); refine gla_ (some 60) Try.func20 #[.agg #[.int .i64 t903, .int .i64 t904], .agg #[.int .i64 a0_0, .int .i64 a0_1]] ?_; (with_reducible refine (num_Sub.calls kj6 t903 t904 a0_0 a0_1 t909 t910 t911 _ A44.out).mono ?_); rintro e w53 ⟨rfl, hb⟩; refine ⟨_, rfl, ?_⟩; replace BK899 := bkb_ BK899 hb; replace BK900 := bkb_ BK900 hb; replace BK906 := bkb_ BK906 hb; replace HB := bws_ HB hb; (try clear hb); (try clear hb2); (try clear hk); (try clear hi)) | ((with_reducible refine gate_dst (N := 10) rfl ?_); refine box_event ?hg (N := 10) ?hd (cs := #[.int .i64 0, .int .i64 0]) (t := 23) ?hr ?_; (case hd => rfl); (case hg => rfl); (case hr => first | (go_simp; done) | (go_simp; rfl)); intro gb912 hg w54 hbox hb; have BK912 := Aside0.mk hbox; have GW912 := bwg_ HB hg; have GE912 := bwg_ HB hg; replace HB := bws_ HB hb; have NB899_912 := bkl_ BK899 hg; have NB912_899 := bkr_ BK899 hg; replace BK899 := bkb_ BK899 hb; have NB900_912 := bkl_ BK900 hg; have NB912_900 := bkr_ BK900 hg; replace BK900 := bkb_ BK900 hb; have NB906_912 := bkl_ BK906 hg; have NB912_906 := bkr_ BK906 hg; replace BK906 := bkb_ BK906 hb; clear hb hbox hg; have hnb55 := NB912_899.out; have hnc55 := NB899_912.out; have hnb56 := NB912_900.out; have hnc56 := NB900_912.out; have hnb57 := NB912_906.out; have hnc57 := NB906_912.out; obtain ⟨hcz58_0, hcz58_1, hfz58_0, hfz58_1⟩ := bc2_ BK912; obtain ⟨hcz59_0, hcz59_1, hfz59_0, hfz59_1⟩ := bc2_ BK900; obtain ⟨hcz60_0, hcz60_1, hfz60_0, hfz60_1⟩ := bc2_ BK899) | ((with_reducible refine gate_callee (f := 20) rfl ?_); refine gla_ (some 66) Try.func20 #[.agg #[.int .i64 a1_0, .int .i64 a1_1], .agg #[.int .i64 a0_0, .int .i64 a0_1]] ?_; (with_reducible refine (num_Sub.calls kj6 a1_0 a1_1 a0_0 a0_1 t913 t914 t915 _ A45.out).mono ?_); rintro e w61 ⟨rfl, hb⟩; refine ⟨_, rfl, ?_⟩; replace BK899 := Aside0.mk (blk_below (g := gb899) (o := .cells #[.int .i64 a0_0, .int .i64 a0_1] 23 (0, 0)) (by refine bf_ ?_ NB899_912; refine bf_ ?_ NB899_912; exact bk_ BK899) hb); replace BK900 := Aside0.mk (blk_below (g := gb900) (o := .cells #[.int .i64 a1_0, .int .i64 a1_1] 23 (0, 0)) (by refine bf_ ?_ NB900_912; refine bf_ ?_ NB900_912; exact bk_ BK900) hb); replace BK906 := Aside0.mk (blk_below (g := gb906) (o := .cells #[.int .i64 t903, .int .i64 t904] 23 (0, 0)) (by refine bf_ ?_ NB906_912; refine bf_ ?_ NB906_912; exact bk_ BK906) hb); replace BK912 := Aside0.mk (blk_below (g := gb912) (o := .cells #[.int .i64 t909, .int .i64 t910] 23 (0, 0)) (by refine bp_ (cs := #[.int .i64 t909, .int .i64 0]) ?_ 1; refine bp_ (cs := #[.int .i64 0, .int .i64 0]) ?_ 0; exact bk_ BK912) hb); replace HB := bws_ HB hb; (try clear hb); (try clear hb2); (try clear hk); (try clear hi)) | ((with_reducible refine gate_dst (N := 12) rfl ?_); refine box_event ?hg (N := 12) ?hd (cs := #[.int .i64 0, .int .i64 0]) (t := 23) ?hr ?_; (case hd => rfl); (case hg => rfl); (case hr => first | (go_simp; done) | (go_simp; rfl)); intro gb916 hg w62 hbox hb; have BK916 := Aside0.mk hbox; have GW916 := bwg_ HB hg; have GE916 := bwg_ HB hg; replace HB := bws_ HB hb; have NB899_916 := bkl_ BK899 hg; have NB916_899 := bkr_ BK899 hg; replace BK899 := bkb_ BK899 hb; have NB900_916 := bkl_ BK900 hg; have NB916_900 := bkr_ BK900 hg; replace BK900 := bkb_ BK900 hb; have NB906_916 := bkl_ BK906 hg; have NB916_906 := bkr_ BK906 hg; replace BK906 := bkb_ BK906 hb; have NB912_916 := bkl_ BK912 hg; have NB916_912 := bkr_ BK912 hg; replace BK912 := bkb_ BK912 hb; clear hb hbox hg; have hnb63 := NB916_899.out; have hnc63 := NB899_916.out; have hnb64 := NB916_900.out; have hnc64 := NB900_916.out; have hnb65 := NB916_906.out; have hnc65 := NB906_916.out; have hnb66 := NB916_912.out; have hnc66 := NB912_916.out; obtain ⟨hcz67_0, hcz67_1, hfz67_0, hfz67_1⟩ := bc2_ BK916))
           (try simp only [Act.put, List.setIfInBounds_toArray, List.set_cons_zero, List.set_cons_succ])
           go_cut [74] (fun v74 wc => ∃ (kq : Nat) (x74_45 : Bool), v74 = .bool x74_45 ∧ Aside0 (withylaw01_NumNearest.j1 kq x74_45 a1_0 a1_1 t903 t904 t909 t910 t913 t914 = some r) ∧ Aside0 (kq ≤ kj6) ∧ Aside0 (wc.heap[gb899]? = some (.cells #[.int .i64 a0_0, .int .i64 a0_1] 23 (0, 0))) ∧ Aside0 (wc.heap[gb900]? = some (.cells #[.int .i64 a1_0, .int .i64 a1_1] 23 (0, 0))) ∧ Aside0 (wc.heap[gb906]? = some (.cells #[.int .i64 t903, .int .i64 t904] 23 (0, 0))) ∧ Aside0 (wc.heap[gb912]? = some (.cells #[.int .i64 t909, .int .i64 t910] 23 (0, 0))) ∧ Aside0 (wc.heap[gb916]? = some (.cells #[.int .i64 t913, .int .i64 t914] 23 (0, 0))) ∧ Aside0 (Below w.heap.size w wc))
           case first =>
            as_aux_lemma =>
             have H := HC46.out
             clear HC46
             by_cases c68 : t911 = 0
             · rw [if_pos c68] at H
               have c68b0 : (t911 == 0) = true := beq_iff_eq.mpr c68
               have c68b1 : (t911 != 0) = false := bne_eq_false_iff_eq.mpr c68
               clear c68
               (first | rw [c68b0] | (simp only [i64_w, i32_w]; rw [c68b0]) | skip)
               have H' := Aside0.mk H
               clear H
               go_wp2
               go_meet
               case rel => exact ⟨_, ((t915 != 0)), (by first | rfl | (simp; done) | (simp [*]; done)), H', ⟨by have := HJ6.out; first | omega | exact Nat.le_refl _⟩, ⟨by refine bf_ ?_ NB899_916; refine bf_ ?_ NB899_916; exact bk_ BK899⟩, ⟨by refine bf_ ?_ NB900_916; refine bf_ ?_ NB900_916; exact bk_ BK900⟩, ⟨by refine bf_ ?_ NB906_916; refine bf_ ?_ NB906_916; exact bk_ BK906⟩, ⟨by refine bf_ ?_ NB912_916; refine bf_ ?_ NB912_916; exact bk_ BK912⟩, ⟨by refine bp_ (cs := #[.int .i64 t913, .int .i64 0]) ?_ 1; refine bp_ (cs := #[.int .i64 0, .int .i64 0]) ?_ 0; exact bk_ BK916⟩, ⟨bw_ HB⟩⟩
             · rw [if_neg c68] at H
               have c68b0 : (t911 == 0) = false := beq_eq_false_iff_ne.mpr c68
               have c68b1 : (t911 != 0) = true := bne_iff_ne.mpr c68
               (first | rw [c68b0] | (simp only [i64_w, i32_w]; rw [c68b0]) | skip)
               have H' := Aside0.mk H
               clear H
               go_wp2
               go_meet
               case rel => exact ⟨_, (true), (by first | rfl | (simp; done) | (simp [*]; done)), H', ⟨by have := HJ6.out; first | omega | exact Nat.le_refl _⟩, ⟨by refine bf_ ?_ NB899_916; refine bf_ ?_ NB899_916; exact bk_ BK899⟩, ⟨by refine bf_ ?_ NB900_916; refine bf_ ?_ NB900_916; exact bk_ BK900⟩, ⟨by refine bf_ ?_ NB906_916; refine bf_ ?_ NB906_916; exact bk_ BK906⟩, ⟨by refine bf_ ?_ NB912_916; refine bf_ ?_ NB912_916; exact bk_ BK912⟩, ⟨by refine bp_ (cs := #[.int .i64 t913, .int .i64 0]) ?_ 1; refine bp_ (cs := #[.int .i64 0, .int .i64 0]) ?_ 0; exact bk_ BK916⟩, ⟨bw_ HB⟩⟩
           case rest =>
            as_aux_lemma =>
             clear HC46
             try clear c1
             try clear c2
             try clear p2
             try clear c3
             try clear c4
             try clear c5
             try clear c6
             try clear p6
             try clear c10
             try clear c13
             try clear c16
             try clear c17
             try clear c18
             try clear c20
             try clear c20b0
             try clear c20b1
             try clear c22
             try clear c23
             try clear c23b0
             try clear c24
             try clear c25
             try clear c27
             try clear c29
             try clear c30
             try clear c32
             try clear c34
             try clear c35
             try clear c37
             try clear c38
             try clear c38b0
             try clear c40
             try clear c41
             try clear c47
             try clear c48
             try clear c50
             try clear c55
             try clear c56
             try clear c57
             try clear c59
             try clear c63
             try clear c64
             try clear p64
             try clear c65
             try clear c66
             try clear c68
             try clear c68b0
             try clear c68b1
             try clear hcz11_0
             try clear hcz11_1
             try clear hcz12_0
             try clear hcz12_1
             try clear hcz14_0
             try clear hcz14_1
             try clear hcz19_0
             try clear hcz19_1
             try clear hcz26_0
             try clear hcz26_1
             try clear hcz28_0
             try clear hcz28_1
             try clear hcz31_0
             try clear hcz31_1
             try clear hcz33_0
             try clear hcz33_1
             try clear hcz36_0
             try clear hcz36_1
             try clear hcz42_0
             try clear hcz42_1
             try clear hcz49_0
             try clear hcz49_1
             try clear hcz51_0
             try clear hcz51_1
             try clear hcz52_0
             try clear hcz52_1
             try clear hcz58_0
             try clear hcz58_1
             try clear hcz59_0
             try clear hcz59_1
             try clear hcz60_0
             try clear hcz60_1
             try clear hcz67_0
             try clear hcz67_1
             try clear hfz11_0
             try clear hfz11_1
             try clear hfz12_0
             try clear hfz12_1
             try clear hfz14_0
             try clear hfz14_1
             try clear hfz19_0
             try clear hfz19_1
             try clear hfz26_0
             try clear hfz26_1
             try clear hfz28_0
             try clear hfz28_1
             try clear hfz31_0
             try clear hfz31_1
             try clear hfz33_0
             try clear hfz33_1
             try clear hfz36_0
             try clear hfz36_1
             try clear hfz42_0
             try clear hfz42_1
             try clear hfz49_0
             try clear hfz49_1
             try clear hfz51_0
             try clear hfz51_1
             try clear hfz52_0
             try clear hfz52_1
             try clear hfz58_0
             try clear hfz58_1
             try clear hfz59_0
             try clear hfz59_1
             try clear hfz60_0
             try clear hfz60_1
             try clear hfz67_0
             try clear hfz67_1
             try clear p2
             try clear p6
             obtain ⟨kq, x74_45, rfl, HA, HJ45, BK899, BK900, BK906, BK912, BK916, HB⟩ := hcut
             cases kq with
             | zero => exact absurd HA.out (by simp [withylaw01_NumNearest.j1])
             | succ kj45 =>
              have H := HA.out
              clear HA
              simp only [withylaw01_NumNearest.j1] at H
              by_cases c69 : x74_45 = true
              · subst c69
                have H1 : ((withylaw01_summed.f kj45).bind fun t917 => (some t917)) = some r := by rw [if_pos rfl] at H; exact H
                clear H
                have H := H1
                clear H1
                replace H := Option.bind_eq_some_iff.mp H
                obtain ⟨t917, A700, H⟩ := H
                replace H : (some t917) = some r := H
                have A70 := Aside0.mk A700
                clear A700
                obtain rfl := Option.some.inj H
                go_wp2_with (first | ((with_reducible refine gate_callee (f := 17) rfl ?_); refine gla_ (some 75) Try.func17 #[] ?_; (with_reducible refine (withylaw01_summed.calls kj45  t917 _ A70.out).mono ?_); rintro e w71 ⟨rfl, hb⟩; refine ⟨_, rfl, ?_⟩; replace BK899 := bkb_ BK899 hb; replace BK900 := bkb_ BK900 hb; replace BK906 := bkb_ BK906 hb; replace BK912 := bkb_ BK912 hb; replace BK916 := bkb_ BK916 hb; replace HB := bws_ HB hb; (try clear hb); (try clear hb2); (try clear hk); (try clear hi)))
                go_ret
                exact ⟨by first | rfl | (simp [*] <;> rfl), bw_ HB⟩
              · replace c69 := Bool.eq_false_iff.mpr c69
                subst c69
                have H1 : (if t909 < 0 then (withylaw01_NumNearest.j2 kj45 a1_0 a1_1 t903 t904 (wrap64 (-t909)) t910 t913 t914) else (withylaw01_NumNearest.j2 kj45 a1_0 a1_1 t903 t904 t909 t910 t913 t914)) = some r := by rw [if_neg (show ¬ (false = true) by decide)] at H; exact H
                clear H
                have H := H1
                clear H1
                have HC72 := Aside0.mk H
                clear H
                have hnb73 := NB912_899.out
                have hnc73 := NB899_912.out
                have hnb74 := NB912_900.out
                have hnc74 := NB900_912.out
                have hnb75 := NB912_906.out
                have hnc75 := NB906_912.out
                have hnb76 := NB912_916.out
                have hnc76 := NB916_912.out
                obtain ⟨hcz77_0, hcz77_1, hfz77_0, hfz77_1⟩ := bc2_ BK912
                go_upto_if 78 with (fail)
                go_cut [] (fun wc => ∃ (kq : Nat) (x913000_71 : Int), Aside0 (withylaw01_NumNearest.j2 kq a1_0 a1_1 t903 t904 x913000_71 t910 t913 t914 = some r) ∧ Aside0 (kq ≤ kj45) ∧ Aside0 (wc.heap[gb899]? = some (.cells #[.int .i64 a0_0, .int .i64 a0_1] 23 (0, 0))) ∧ Aside0 (wc.heap[gb900]? = some (.cells #[.int .i64 a1_0, .int .i64 a1_1] 23 (0, 0))) ∧ Aside0 (wc.heap[gb906]? = some (.cells #[.int .i64 t903, .int .i64 t904] 23 (0, 0))) ∧ Aside0 (wc.heap[gb912]? = some (.cells #[.int .i64 x913000_71, .int .i64 t910] 23 (0, 0))) ∧ Aside0 (wc.heap[gb916]? = some (.cells #[.int .i64 t913, .int .i64 t914] 23 (0, 0))) ∧ Aside0 (Below w.heap.size w wc))
                case first =>
                 as_aux_lemma =>
                  have H := HC72.out
                  clear HC72
                  by_cases c78 : t909 < 0
                  · rw [if_pos c78] at H
                    have c78b0 : decide (t909 < 0) = true := decide_eq_true c78
                    clear c78
                    (first | rw [c78b0] | (simp only [i64_w, i32_w]; rw [c78b0]) | skip)
                    have H' := Aside0.mk H
                    clear H
                    have hnb79 := NB912_899.out
                    have hnc79 := NB899_912.out
                    have hnb80 := NB912_900.out
                    have hnc80 := NB900_912.out
                    have hnb81 := NB912_906.out
                    have hnc81 := NB906_912.out
                    have hnb82 := NB912_916.out
                    have hnc82 := NB916_912.out
                    obtain ⟨hcz83_0, hcz83_1, hfz83_0, hfz83_1⟩ := bc2_ BK912
                    go_wp2
                    go_meet
                    case rel => exact ⟨_, (wrap64 (-t909)), H', ⟨by have := HJ6.out; have := HJ45.out; first | omega | exact Nat.le_refl _⟩, ⟨by refine bf_ ?_ NB899_912; exact bk_ BK899⟩, ⟨by refine bf_ ?_ NB900_912; exact bk_ BK900⟩, ⟨by refine bf_ ?_ NB906_912; exact bk_ BK906⟩, ⟨by refine bp_ (cs := #[.int .i64 t909, .int .i64 t910]) ?_ 0; exact bk_ BK912⟩, ⟨by refine bf_ ?_ NB916_912; exact bk_ BK916⟩, ⟨bw_ HB⟩⟩
                  · rw [if_neg c78] at H
                    have c78b0 : decide (t909 < 0) = false := decide_eq_false c78
                    clear c78
                    (first | rw [c78b0] | (simp only [i64_w, i32_w]; rw [c78b0]) | skip)
                    have H' := Aside0.mk H
                    clear H
                    go_wp2
                    go_meet
                    case rel => exact ⟨_, (t909), H', ⟨by have := HJ6.out; have := HJ45.out; first | omega | exact Nat.le_refl _⟩, ⟨by exact bk_ BK899⟩, ⟨by exact bk_ BK900⟩, ⟨by exact bk_ BK906⟩, ⟨by exact bk_ BK912⟩, ⟨by exact bk_ BK916⟩, ⟨bw_ HB⟩⟩
                case rest =>
                 as_aux_lemma =>
                  clear HC72
                  try clear c1
                  try clear c2
                  try clear p2
                  try clear c3
                  try clear c4
                  try clear c5
                  try clear c6
                  try clear p6
                  try clear c7
                  try clear c8
                  try clear c10
                  try clear c13
                  try clear c16
                  try clear c17
                  try clear c18
                  try clear c20
                  try clear c20b0
                  try clear c20b1
                  try clear c22
                  try clear c23
                  try clear c23b0
                  try clear c24
                  try clear c25
                  try clear c27
                  try clear c29
                  try clear c30
                  try clear c32
                  try clear c34
                  try clear c35
                  try clear c37
                  try clear c38
                  try clear c38b0
                  try clear c40
                  try clear c41
                  try clear c47
                  try clear c48
                  try clear c50
                  try clear c55
                  try clear c56
                  try clear c57
                  try clear c59
                  try clear c63
                  try clear c64
                  try clear p64
                  try clear c65
                  try clear c66
                  try clear c68
                  try clear c68b0
                  try clear c68b1
                  try clear c69
                  try clear c73
                  try clear c74
                  try clear c75
                  try clear c76
                  try clear c78
                  try clear c78b0
                  try clear c79
                  try clear c80
                  try clear c81
                  try clear c82
                  try clear hcz11_0
                  try clear hcz11_1
                  try clear hcz12_0
                  try clear hcz12_1
                  try clear hcz14_0
                  try clear hcz14_1
                  try clear hcz19_0
                  try clear hcz19_1
                  try clear hcz26_0
                  try clear hcz26_1
                  try clear hcz28_0
                  try clear hcz28_1
                  try clear hcz31_0
                  try clear hcz31_1
                  try clear hcz33_0
                  try clear hcz33_1
                  try clear hcz36_0
                  try clear hcz36_1
                  try clear hcz42_0
                  try clear hcz42_1
                  try clear hcz49_0
                  try clear hcz49_1
                  try clear hcz51_0
                  try clear hcz51_1
                  try clear hcz52_0
                  try clear hcz52_1
                  try clear hcz58_0
                  try clear hcz58_1
                  try clear hcz59_0
                  try clear hcz59_1
                  try clear hcz60_0
                  try clear hcz60_1
                  try clear hcz67_0
                  try clear hcz67_1
                  try clear hcz77_0
                  try clear hcz77_1
                  try clear hcz83_0
                  try clear hcz83_1
                  try clear hfz11_0
                  try clear hfz11_1
                  try clear hfz12_0
                  try clear hfz12_1
                  try clear hfz14_0
                  try clear hfz14_1
                  try clear hfz19_0
                  try clear hfz19_1
                  try clear hfz26_0
                  try clear hfz26_1
                  try clear hfz28_0
                  try clear hfz28_1
                  try clear hfz31_0
                  try clear hfz31_1
                  try clear hfz33_0
                  try clear hfz33_1
                  try clear hfz36_0
                  try clear hfz36_1
                  try clear hfz42_0
                  try clear hfz42_1
                  try clear hfz49_0
                  try clear hfz49_1
                  try clear hfz51_0
                  try clear hfz51_1
                  try clear hfz52_0
                  try clear hfz52_1
                  try clear hfz58_0
                  try clear hfz58_1
                  try clear hfz59_0
                  try clear hfz59_1
                  try clear hfz60_0
                  try clear hfz60_1
                  try clear hfz67_0
                  try clear hfz67_1
                  try clear hfz77_0
                  try clear hfz77_1
                  try clear hfz83_0
                  try clear hfz83_1
                  try clear p2
                  try clear p6
                  try clear p64
                  obtain ⟨kq, x913000_71, HA, HJ71, BK899, BK900, BK906, BK912, BK916, HB⟩ := hcut
                  cases kq with
                  | zero => exact absurd HA.out (by simp [withylaw01_NumNearest.j2])
                  | succ kj71 =>
                   have H := HA.out
                   clear HA
                   simp only [withylaw01_NumNearest.j2] at H
                   by_cases c84 : t913 < 0
                   · rw [if_pos c84] at H
                     have c84b0 : decide (t913 < 0) = true := decide_eq_true c84
                     clear c84
                     replace H := Option.bind_eq_some_iff.mp H
                     obtain ⟨⟨t918, t919⟩, A850, H⟩ := H
                     replace H : (if t919 = 0 then (if t918 < 0 then ((withylaw01_summed.f kj71).bind fun t920 => (some t920)) else (if t918 = 0 then ((withyref01_Simpler.f a1_0 a1_1 t903 t904).bind fun t921 => (if t921 = true then (some false) else ((withylaw01_summed.f kj71).bind fun t922 => (some t922)))) else (some false))) else (some false)) = some r := H
                     have A85 := Aside0.mk A850
                     clear A850
                     by_cases c86 : t919 = 0
                     · rw [if_pos c86] at H
                       have c86b0 : (t919 == 0) = true := beq_iff_eq.mpr c86
                       have c86b1 : (t919 != 0) = false := bne_eq_false_iff_eq.mpr c86
                       clear c86
                       by_cases c87 : t918 < 0
                       · rw [if_pos c87] at H
                         have c87b0 : decide (t918 < 0) = true := decide_eq_true c87
                         clear c87
                         replace H := Option.bind_eq_some_iff.mp H
                         obtain ⟨t920, A880, H⟩ := H
                         replace H : (some t920) = some r := H
                         have A88 := Aside0.mk A880
                         clear A880
                         obtain rfl := Option.some.inj H
                         have hnb89 := NB916_899.out
                         have hnc89 := NB899_916.out
                         have hnb90 := NB916_900.out
                         have hnc90 := NB900_916.out
                         have hnb91 := NB916_906.out
                         have hnc91 := NB906_916.out
                         have hnb92 := NB916_912.out
                         have hnc92 := NB912_916.out
                         obtain ⟨hcz93_0, hcz93_1, hfz93_0, hfz93_1⟩ := bc2_ BK916
                         have hnb94 := NB912_899.out
                         have hnc94 := NB899_912.out
                         have hnb95 := NB912_900.out
                         have hnc95 := NB900_912.out
                         have hnb96 := NB912_906.out
                         have hnc96 := NB906_912.out
                         obtain ⟨hcz97_0, hcz97_1, hfz97_0, hfz97_1⟩ := bc2_ BK912
                         go_wp2_with (first | ((with_reducible refine gate_callee (f := 26) rfl ?_); refine gla_ (some 93) Try.func26 #[.agg #[.int .i64 x913000_71, .int .i64 t910], .agg #[.int .i64 (wrap64 (-t913)), .int .i64 t914]] ?_; (with_reducible refine (num_Cmp.calls kj71 x913000_71 t910 (wrap64 (-t913)) t914 t918 t919 _ A85.out).mono ?_); rintro e w98 ⟨rfl, hb⟩; refine ⟨_, rfl, ?_⟩; replace BK899 := Aside0.mk (blk_below (g := gb899) (o := .cells #[.int .i64 a0_0, .int .i64 a0_1] 23 (0, 0)) (by refine bf_ ?_ NB899_916; exact bk_ BK899) hb); replace BK900 := Aside0.mk (blk_below (g := gb900) (o := .cells #[.int .i64 a1_0, .int .i64 a1_1] 23 (0, 0)) (by refine bf_ ?_ NB900_916; exact bk_ BK900) hb); replace BK906 := Aside0.mk (blk_below (g := gb906) (o := .cells #[.int .i64 t903, .int .i64 t904] 23 (0, 0)) (by refine bf_ ?_ NB906_916; exact bk_ BK906) hb); replace BK912 := Aside0.mk (blk_below (g := gb912) (o := .cells #[.int .i64 x913000_71, .int .i64 t910] 23 (0, 0)) (by refine bf_ ?_ NB912_916; exact bk_ BK912) hb); replace BK916 := Aside0.mk (blk_below (g := gb916) (o := .cells #[.int .i64 (wrap64 (-t913)), .int .i64 t914] 23 (0, 0)) (by refine bp_ (cs := #[.int .i64 t913, .int .i64 t914]) ?_ 0; exact bk_ BK916) hb); replace HB := bws_ HB hb; (try clear hb); (try clear hb2); (try clear hk); (try clear hi)) | (go_at_call 17; (with_reducible refine (withylaw01_summed.calls kj71  t920 _ A88.out).mono ?_); rintro e w99 ⟨rfl, hb⟩; replace BK899 := bkb_ BK899 hb; replace BK900 := bkb_ BK900 hb; replace BK906 := bkb_ BK906 hb; replace BK912 := bkb_ BK912 hb; replace BK916 := bkb_ BK916 hb; replace HB := bws_ HB hb; (try clear hb); (try clear hb2); (try clear hk); (try clear hi)))
                         go_ret
                         exact ⟨by first | rfl | (simp [*] <;> rfl), bw_ HB⟩
                       · rw [if_neg c87] at H
                         have c87b0 : decide (t918 < 0) = false := decide_eq_false c87
                         clear c87
                         by_cases c100 : t918 = 0
                         · rw [if_pos c100] at H
                           have c100b0 : (t918 == 0) = true := beq_iff_eq.mpr c100
                           have c100b1 : (t918 != 0) = false := bne_eq_false_iff_eq.mpr c100
                           clear c100
                           replace H := Option.bind_eq_some_iff.mp H
                           obtain ⟨t921, A1010, H⟩ := H
                           replace H : (if t921 = true then (some false) else ((withylaw01_summed.f kj71).bind fun t922 => (some t922))) = some r := H
                           have A101 := Aside0.mk A1010
                           clear A1010
                           by_cases c102 : t921 = true
                           · subst c102
                             have H1 : (some false) = some r := by rw [if_pos rfl] at H; exact H
                             clear H
                             have H := H1
                             clear H1
                             obtain rfl := Option.some.inj H
                             have hnb103 := NB916_899.out
                             have hnc103 := NB899_916.out
                             have hnb104 := NB916_900.out
                             have hnc104 := NB900_916.out
                             have hnb105 := NB916_906.out
                             have hnc105 := NB906_916.out
                             have hnb106 := NB916_912.out
                             have hnc106 := NB912_916.out
                             obtain ⟨hcz107_0, hcz107_1, hfz107_0, hfz107_1⟩ := bc2_ BK916
                             have hnb108 := NB912_899.out
                             have hnc108 := NB899_912.out
                             have hnb109 := NB912_900.out
                             have hnc109 := NB900_912.out
                             have hnb110 := NB912_906.out
                             have hnc110 := NB906_912.out
                             obtain ⟨hcz111_0, hcz111_1, hfz111_0, hfz111_1⟩ := bc2_ BK912
                             go_wp2_with (first | ((with_reducible refine gate_callee (f := 26) rfl ?_); refine gla_ (some 93) Try.func26 #[.agg #[.int .i64 x913000_71, .int .i64 t910], .agg #[.int .i64 (wrap64 (-t913)), .int .i64 t914]] ?_; (with_reducible refine (num_Cmp.calls kj71 x913000_71 t910 (wrap64 (-t913)) t914 t918 t919 _ A85.out).mono ?_); rintro e w112 ⟨rfl, hb⟩; refine ⟨_, rfl, ?_⟩; replace BK899 := Aside0.mk (blk_below (g := gb899) (o := .cells #[.int .i64 a0_0, .int .i64 a0_1] 23 (0, 0)) (by refine bf_ ?_ NB899_916; exact bk_ BK899) hb); replace BK900 := Aside0.mk (blk_below (g := gb900) (o := .cells #[.int .i64 a1_0, .int .i64 a1_1] 23 (0, 0)) (by refine bf_ ?_ NB900_916; exact bk_ BK900) hb); replace BK906 := Aside0.mk (blk_below (g := gb906) (o := .cells #[.int .i64 t903, .int .i64 t904] 23 (0, 0)) (by refine bf_ ?_ NB906_916; exact bk_ BK906) hb); replace BK912 := Aside0.mk (blk_below (g := gb912) (o := .cells #[.int .i64 x913000_71, .int .i64 t910] 23 (0, 0)) (by refine bf_ ?_ NB912_916; exact bk_ BK912) hb); replace BK916 := Aside0.mk (blk_below (g := gb916) (o := .cells #[.int .i64 (wrap64 (-t913)), .int .i64 t914] 23 (0, 0)) (by refine bp_ (cs := #[.int .i64 t913, .int .i64 t914]) ?_ 0; exact bk_ BK916) hb); replace HB := bws_ HB hb; (try clear hb); (try clear hb2); (try clear hk); (try clear hi); have hnb113 := NB900_899.out; have hnc113 := NB899_900.out; have hnb114 := NB900_906.out; have hnc114 := NB906_900.out; obtain ⟨hcz115_0, hcz115_1, hfz115_0, hfz115_1⟩ := bc2_ BK900; have hnb116 := NB906_899.out; have hnc116 := NB899_906.out; obtain ⟨hcz117_0, hcz117_1, hfz117_0, hfz117_1⟩ := bc2_ BK906) | (go_at_call 28; (with_reducible refine (withyref01_Simpler.calls a1_0 a1_1 t903 t904 true _ A101.out).mono ?_); rintro e w118 ⟨rfl, hb⟩; replace BK899 := bkb_ BK899 hb; replace BK900 := bkb_ BK900 hb; replace BK906 := bkb_ BK906 hb; replace BK912 := bkb_ BK912 hb; replace BK916 := bkb_ BK916 hb; replace HB := bws_ HB hb; (try clear hb); (try clear hb2); (try clear hk); (try clear hi)))
                             go_ret
                             exact ⟨by first | rfl | (simp [*] <;> rfl), bw_ HB⟩
                           · replace c102 := Bool.eq_false_iff.mpr c102
                             subst c102
                             have H1 : ((withylaw01_summed.f kj71).bind fun t922 => (some t922)) = some r := by rw [if_neg (show ¬ (false = true) by decide)] at H; exact H
                             clear H
                             have H := H1
                             clear H1
                             replace H := Option.bind_eq_some_iff.mp H
                             obtain ⟨t922, A1190, H⟩ := H
                             replace H : (some t922) = some r := H
                             have A119 := Aside0.mk A1190
                             clear A1190
                             obtain rfl := Option.some.inj H
                             have hnb120 := NB916_899.out
                             have hnc120 := NB899_916.out
                             have hnb121 := NB916_900.out
                             have hnc121 := NB900_916.out
                             have hnb122 := NB916_906.out
                             have hnc122 := NB906_916.out
                             have hnb123 := NB916_912.out
                             have hnc123 := NB912_916.out
                             obtain ⟨hcz124_0, hcz124_1, hfz124_0, hfz124_1⟩ := bc2_ BK916
                             have hnb125 := NB912_899.out
                             have hnc125 := NB899_912.out
                             have hnb126 := NB912_900.out
                             have hnc126 := NB900_912.out
                             have hnb127 := NB912_906.out
                             have hnc127 := NB906_912.out
                             obtain ⟨hcz128_0, hcz128_1, hfz128_0, hfz128_1⟩ := bc2_ BK912
                             go_wp2_with (first | ((with_reducible refine gate_callee (f := 26) rfl ?_); refine gla_ (some 93) Try.func26 #[.agg #[.int .i64 x913000_71, .int .i64 t910], .agg #[.int .i64 (wrap64 (-t913)), .int .i64 t914]] ?_; (with_reducible refine (num_Cmp.calls kj71 x913000_71 t910 (wrap64 (-t913)) t914 t918 t919 _ A85.out).mono ?_); rintro e w129 ⟨rfl, hb⟩; refine ⟨_, rfl, ?_⟩; replace BK899 := Aside0.mk (blk_below (g := gb899) (o := .cells #[.int .i64 a0_0, .int .i64 a0_1] 23 (0, 0)) (by refine bf_ ?_ NB899_916; exact bk_ BK899) hb); replace BK900 := Aside0.mk (blk_below (g := gb900) (o := .cells #[.int .i64 a1_0, .int .i64 a1_1] 23 (0, 0)) (by refine bf_ ?_ NB900_916; exact bk_ BK900) hb); replace BK906 := Aside0.mk (blk_below (g := gb906) (o := .cells #[.int .i64 t903, .int .i64 t904] 23 (0, 0)) (by refine bf_ ?_ NB906_916; exact bk_ BK906) hb); replace BK912 := Aside0.mk (blk_below (g := gb912) (o := .cells #[.int .i64 x913000_71, .int .i64 t910] 23 (0, 0)) (by refine bf_ ?_ NB912_916; exact bk_ BK912) hb); replace BK916 := Aside0.mk (blk_below (g := gb916) (o := .cells #[.int .i64 (wrap64 (-t913)), .int .i64 t914] 23 (0, 0)) (by refine bp_ (cs := #[.int .i64 t913, .int .i64 t914]) ?_ 0; exact bk_ BK916) hb); replace HB := bws_ HB hb; (try clear hb); (try clear hb2); (try clear hk); (try clear hi); have hnb130 := NB900_899.out; have hnc130 := NB899_900.out; have hnb131 := NB900_906.out; have hnc131 := NB906_900.out; obtain ⟨hcz132_0, hcz132_1, hfz132_0, hfz132_1⟩ := bc2_ BK900; have hnb133 := NB906_899.out; have hnc133 := NB899_906.out; obtain ⟨hcz134_0, hcz134_1, hfz134_0, hfz134_1⟩ := bc2_ BK906) | (go_at_call 28; (with_reducible refine (withyref01_Simpler.calls a1_0 a1_1 t903 t904 false _ A101.out).mono ?_); rintro e w135 ⟨rfl, hb⟩; replace BK899 := bkb_ BK899 hb; replace BK900 := bkb_ BK900 hb; replace BK906 := bkb_ BK906 hb; replace BK912 := bkb_ BK912 hb; replace BK916 := bkb_ BK916 hb; replace HB := bws_ HB hb; (try clear hb); (try clear hb2); (try clear hk); (try clear hi)) | (go_at_call 17; (with_reducible refine (withylaw01_summed.calls kj71  t922 _ A119.out).mono ?_); rintro e w136 ⟨rfl, hb⟩; replace BK899 := bkb_ BK899 hb; replace BK900 := bkb_ BK900 hb; replace BK906 := bkb_ BK906 hb; replace BK912 := bkb_ BK912 hb; replace BK916 := bkb_ BK916 hb; replace HB := bws_ HB hb; (try clear hb); (try clear hb2); (try clear hk); (try clear hi)))
                             go_ret
                             exact ⟨by first | rfl | (simp [*] <;> rfl), bw_ HB⟩
                         · rw [if_neg c100] at H
                           have c100b0 : (t918 == 0) = false := beq_eq_false_iff_ne.mpr c100
                           have c100b1 : (t918 != 0) = true := bne_iff_ne.mpr c100
                           obtain rfl := Option.some.inj H
                           have hnb137 := NB916_899.out
                           have hnc137 := NB899_916.out
                           have hnb138 := NB916_900.out
                           have hnc138 := NB900_916.out
                           have hnb139 := NB916_906.out
                           have hnc139 := NB906_916.out
                           have hnb140 := NB916_912.out
                           have hnc140 := NB912_916.out
                           obtain ⟨hcz141_0, hcz141_1, hfz141_0, hfz141_1⟩ := bc2_ BK916
                           have hnb142 := NB912_899.out
                           have hnc142 := NB899_912.out
                           have hnb143 := NB912_900.out
                           have hnc143 := NB900_912.out
                           have hnb144 := NB912_906.out
                           have hnc144 := NB906_912.out
                           obtain ⟨hcz145_0, hcz145_1, hfz145_0, hfz145_1⟩ := bc2_ BK912
                           go_wp2_with (first | ((with_reducible refine gate_callee (f := 26) rfl ?_); refine gla_ (some 93) Try.func26 #[.agg #[.int .i64 x913000_71, .int .i64 t910], .agg #[.int .i64 (wrap64 (-t913)), .int .i64 t914]] ?_; (with_reducible refine (num_Cmp.calls kj71 x913000_71 t910 (wrap64 (-t913)) t914 t918 t919 _ A85.out).mono ?_); rintro e w146 ⟨rfl, hb⟩; refine ⟨_, rfl, ?_⟩; replace BK899 := Aside0.mk (blk_below (g := gb899) (o := .cells #[.int .i64 a0_0, .int .i64 a0_1] 23 (0, 0)) (by refine bf_ ?_ NB899_916; exact bk_ BK899) hb); replace BK900 := Aside0.mk (blk_below (g := gb900) (o := .cells #[.int .i64 a1_0, .int .i64 a1_1] 23 (0, 0)) (by refine bf_ ?_ NB900_916; exact bk_ BK900) hb); replace BK906 := Aside0.mk (blk_below (g := gb906) (o := .cells #[.int .i64 t903, .int .i64 t904] 23 (0, 0)) (by refine bf_ ?_ NB906_916; exact bk_ BK906) hb); replace BK912 := Aside0.mk (blk_below (g := gb912) (o := .cells #[.int .i64 x913000_71, .int .i64 t910] 23 (0, 0)) (by refine bf_ ?_ NB912_916; exact bk_ BK912) hb); replace BK916 := Aside0.mk (blk_below (g := gb916) (o := .cells #[.int .i64 (wrap64 (-t913)), .int .i64 t914] 23 (0, 0)) (by refine bp_ (cs := #[.int .i64 t913, .int .i64 t914]) ?_ 0; exact bk_ BK916) hb); replace HB := bws_ HB hb; (try clear hb); (try clear hb2); (try clear hk); (try clear hi)))
                           go_ret
                           exact ⟨by first | rfl | (simp [*] <;> rfl), bw_ HB⟩
                     · rw [if_neg c86] at H
                       have c86b0 : (t919 == 0) = false := beq_eq_false_iff_ne.mpr c86
                       have c86b1 : (t919 != 0) = true := bne_iff_ne.mpr c86
                       obtain rfl := Option.some.inj H
                       have hnb147 := NB916_899.out
                       have hnc147 := NB899_916.out
                       have hnb148 := NB916_900.out
                       have hnc148 := NB900_916.out
                       have hnb149 := NB916_906.out
                       have hnc149 := NB906_916.out
                       have hnb150 := NB916_912.out
                       have hnc150 := NB912_916.out
                       obtain ⟨hcz151_0, hcz151_1, hfz151_0, hfz151_1⟩ := bc2_ BK916
                       have hnb152 := NB912_899.out
                       have hnc152 := NB899_912.out
                       have hnb153 := NB912_900.out
                       have hnc153 := NB900_912.out
                       have hnb154 := NB912_906.out
                       have hnc154 := NB906_912.out
                       obtain ⟨hcz155_0, hcz155_1, hfz155_0, hfz155_1⟩ := bc2_ BK912
                       go_wp2_with (first | ((with_reducible refine gate_callee (f := 26) rfl ?_); refine gla_ (some 93) Try.func26 #[.agg #[.int .i64 x913000_71, .int .i64 t910], .agg #[.int .i64 (wrap64 (-t913)), .int .i64 t914]] ?_; (with_reducible refine (num_Cmp.calls kj71 x913000_71 t910 (wrap64 (-t913)) t914 t918 t919 _ A85.out).mono ?_); rintro e w156 ⟨rfl, hb⟩; refine ⟨_, rfl, ?_⟩; replace BK899 := Aside0.mk (blk_below (g := gb899) (o := .cells #[.int .i64 a0_0, .int .i64 a0_1] 23 (0, 0)) (by refine bf_ ?_ NB899_916; exact bk_ BK899) hb); replace BK900 := Aside0.mk (blk_below (g := gb900) (o := .cells #[.int .i64 a1_0, .int .i64 a1_1] 23 (0, 0)) (by refine bf_ ?_ NB900_916; exact bk_ BK900) hb); replace BK906 := Aside0.mk (blk_below (g := gb906) (o := .cells #[.int .i64 t903, .int .i64 t904] 23 (0, 0)) (by refine bf_ ?_ NB906_916; exact bk_ BK906) hb); replace BK912 := Aside0.mk (blk_below (g := gb912) (o := .cells #[.int .i64 x913000_71, .int .i64 t910] 23 (0, 0)) (by refine bf_ ?_ NB912_916; exact bk_ BK912) hb); replace BK916 := Aside0.mk (blk_below (g := gb916) (o := .cells #[.int .i64 (wrap64 (-t913)), .int .i64 t914] 23 (0, 0)) (by refine bp_ (cs := #[.int .i64 t913, .int .i64 t914]) ?_ 0; exact bk_ BK916) hb); replace HB := bws_ HB hb; (try clear hb); (try clear hb2); (try clear hk); (try clear hi)))
                       go_ret
                       exact ⟨by first | rfl | (simp [*] <;> rfl), bw_ HB⟩
                   · rw [if_neg c84] at H
                     have c84b0 : decide (t913 < 0) = false := decide_eq_false c84
                     clear c84
                     replace H := Option.bind_eq_some_iff.mp H
                     obtain ⟨⟨t923, t924⟩, A1570, H⟩ := H
                     replace H : (if t924 = 0 then (if t923 < 0 then ((withylaw01_summed.f kj71).bind fun t925 => (some t925)) else (if t923 = 0 then ((withyref01_Simpler.f a1_0 a1_1 t903 t904).bind fun t926 => (if t926 = true then (some false) else ((withylaw01_summed.f kj71).bind fun t927 => (some t927)))) else (some false))) else (some false)) = some r := H
                     have A157 := Aside0.mk A1570
                     clear A1570
                     by_cases c158 : t924 = 0
                     · rw [if_pos c158] at H
                       have c158b0 : (t924 == 0) = true := beq_iff_eq.mpr c158
                       have c158b1 : (t924 != 0) = false := bne_eq_false_iff_eq.mpr c158
                       clear c158
                       by_cases c159 : t923 < 0
                       · rw [if_pos c159] at H
                         have c159b0 : decide (t923 < 0) = true := decide_eq_true c159
                         clear c159
                         replace H := Option.bind_eq_some_iff.mp H
                         obtain ⟨t925, A1600, H⟩ := H
                         replace H : (some t925) = some r := H
                         have A160 := Aside0.mk A1600
                         clear A1600
                         obtain rfl := Option.some.inj H
                         have hnb161 := NB916_899.out
                         have hnc161 := NB899_916.out
                         have hnb162 := NB916_900.out
                         have hnc162 := NB900_916.out
                         have hnb163 := NB916_906.out
                         have hnc163 := NB906_916.out
                         have hnb164 := NB916_912.out
                         have hnc164 := NB912_916.out
                         obtain ⟨hcz165_0, hcz165_1, hfz165_0, hfz165_1⟩ := bc2_ BK916
                         have hnb166 := NB912_899.out
                         have hnc166 := NB899_912.out
                         have hnb167 := NB912_900.out
                         have hnc167 := NB900_912.out
                         have hnb168 := NB912_906.out
                         have hnc168 := NB906_912.out
                         obtain ⟨hcz169_0, hcz169_1, hfz169_0, hfz169_1⟩ := bc2_ BK912
                         go_wp2_with (first | ((with_reducible refine gate_callee (f := 26) rfl ?_); refine gla_ (some 93) Try.func26 #[.agg #[.int .i64 x913000_71, .int .i64 t910], .agg #[.int .i64 t913, .int .i64 t914]] ?_; (with_reducible refine (num_Cmp.calls kj71 x913000_71 t910 t913 t914 t923 t924 _ A157.out).mono ?_); rintro e w170 ⟨rfl, hb⟩; refine ⟨_, rfl, ?_⟩; replace BK899 := bkb_ BK899 hb; replace BK900 := bkb_ BK900 hb; replace BK906 := bkb_ BK906 hb; replace BK912 := bkb_ BK912 hb; replace BK916 := bkb_ BK916 hb; replace HB := bws_ HB hb; (try clear hb); (try clear hb2); (try clear hk); (try clear hi)) | (go_at_call 17; (with_reducible refine (withylaw01_summed.calls kj71  t925 _ A160.out).mono ?_); rintro e w171 ⟨rfl, hb⟩; replace BK899 := bkb_ BK899 hb; replace BK900 := bkb_ BK900 hb; replace BK906 := bkb_ BK906 hb; replace BK912 := bkb_ BK912 hb; replace BK916 := bkb_ BK916 hb; replace HB := bws_ HB hb; (try clear hb); (try clear hb2); (try clear hk); (try clear hi)))
                         go_ret
                         exact ⟨by first | rfl | (simp [*] <;> rfl), bw_ HB⟩
                       · rw [if_neg c159] at H
                         have c159b0 : decide (t923 < 0) = false := decide_eq_false c159
                         clear c159
                         by_cases c172 : t923 = 0
                         · rw [if_pos c172] at H
                           have c172b0 : (t923 == 0) = true := beq_iff_eq.mpr c172
                           have c172b1 : (t923 != 0) = false := bne_eq_false_iff_eq.mpr c172
                           clear c172
                           replace H := Option.bind_eq_some_iff.mp H
                           obtain ⟨t926, A1730, H⟩ := H
                           replace H : (if t926 = true then (some false) else ((withylaw01_summed.f kj71).bind fun t927 => (some t927))) = some r := H
                           have A173 := Aside0.mk A1730
                           clear A1730
                           by_cases c174 : t926 = true
                           · subst c174
                             have H1 : (some false) = some r := by rw [if_pos rfl] at H; exact H
                             clear H
                             have H := H1
                             clear H1
                             obtain rfl := Option.some.inj H
                             have hnb175 := NB916_899.out
                             have hnc175 := NB899_916.out
                             have hnb176 := NB916_900.out
                             have hnc176 := NB900_916.out
                             have hnb177 := NB916_906.out
                             have hnc177 := NB906_916.out
                             have hnb178 := NB916_912.out
                             have hnc178 := NB912_916.out
                             obtain ⟨hcz179_0, hcz179_1, hfz179_0, hfz179_1⟩ := bc2_ BK916
                             have hnb180 := NB912_899.out
                             have hnc180 := NB899_912.out
                             have hnb181 := NB912_900.out
                             have hnc181 := NB900_912.out
                             have hnb182 := NB912_906.out
                             have hnc182 := NB906_912.out
                             obtain ⟨hcz183_0, hcz183_1, hfz183_0, hfz183_1⟩ := bc2_ BK912
                             go_wp2_with (first | ((with_reducible refine gate_callee (f := 26) rfl ?_); refine gla_ (some 93) Try.func26 #[.agg #[.int .i64 x913000_71, .int .i64 t910], .agg #[.int .i64 t913, .int .i64 t914]] ?_; (with_reducible refine (num_Cmp.calls kj71 x913000_71 t910 t913 t914 t923 t924 _ A157.out).mono ?_); rintro e w184 ⟨rfl, hb⟩; refine ⟨_, rfl, ?_⟩; replace BK899 := bkb_ BK899 hb; replace BK900 := bkb_ BK900 hb; replace BK906 := bkb_ BK906 hb; replace BK912 := bkb_ BK912 hb; replace BK916 := bkb_ BK916 hb; replace HB := bws_ HB hb; (try clear hb); (try clear hb2); (try clear hk); (try clear hi); have hnb185 := NB900_899.out; have hnc185 := NB899_900.out; have hnb186 := NB900_906.out; have hnc186 := NB906_900.out; obtain ⟨hcz187_0, hcz187_1, hfz187_0, hfz187_1⟩ := bc2_ BK900; have hnb188 := NB906_899.out; have hnc188 := NB899_906.out; obtain ⟨hcz189_0, hcz189_1, hfz189_0, hfz189_1⟩ := bc2_ BK906) | (go_at_call 28; (with_reducible refine (withyref01_Simpler.calls a1_0 a1_1 t903 t904 true _ A173.out).mono ?_); rintro e w190 ⟨rfl, hb⟩; replace BK899 := bkb_ BK899 hb; replace BK900 := bkb_ BK900 hb; replace BK906 := bkb_ BK906 hb; replace BK912 := bkb_ BK912 hb; replace BK916 := bkb_ BK916 hb; replace HB := bws_ HB hb; (try clear hb); (try clear hb2); (try clear hk); (try clear hi)))
                             go_ret
                             exact ⟨by first | rfl | (simp [*] <;> rfl), bw_ HB⟩
                           · replace c174 := Bool.eq_false_iff.mpr c174
                             subst c174
                             have H1 : ((withylaw01_summed.f kj71).bind fun t927 => (some t927)) = some r := by rw [if_neg (show ¬ (false = true) by decide)] at H; exact H
                             clear H
                             have H := H1
                             clear H1
                             replace H := Option.bind_eq_some_iff.mp H
                             obtain ⟨t927, A1910, H⟩ := H
                             replace H : (some t927) = some r := H
                             have A191 := Aside0.mk A1910
                             clear A1910
                             obtain rfl := Option.some.inj H
                             have hnb192 := NB916_899.out
                             have hnc192 := NB899_916.out
                             have hnb193 := NB916_900.out
                             have hnc193 := NB900_916.out
                             have hnb194 := NB916_906.out
                             have hnc194 := NB906_916.out
                             have hnb195 := NB916_912.out
                             have hnc195 := NB912_916.out
                             obtain ⟨hcz196_0, hcz196_1, hfz196_0, hfz196_1⟩ := bc2_ BK916
                             have hnb197 := NB912_899.out
                             have hnc197 := NB899_912.out
                             have hnb198 := NB912_900.out
                             have hnc198 := NB900_912.out
                             have hnb199 := NB912_906.out
                             have hnc199 := NB906_912.out
                             obtain ⟨hcz200_0, hcz200_1, hfz200_0, hfz200_1⟩ := bc2_ BK912
                             go_wp2_with (first | ((with_reducible refine gate_callee (f := 26) rfl ?_); refine gla_ (some 93) Try.func26 #[.agg #[.int .i64 x913000_71, .int .i64 t910], .agg #[.int .i64 t913, .int .i64 t914]] ?_; (with_reducible refine (num_Cmp.calls kj71 x913000_71 t910 t913 t914 t923 t924 _ A157.out).mono ?_); rintro e w201 ⟨rfl, hb⟩; refine ⟨_, rfl, ?_⟩; replace BK899 := bkb_ BK899 hb; replace BK900 := bkb_ BK900 hb; replace BK906 := bkb_ BK906 hb; replace BK912 := bkb_ BK912 hb; replace BK916 := bkb_ BK916 hb; replace HB := bws_ HB hb; (try clear hb); (try clear hb2); (try clear hk); (try clear hi); have hnb202 := NB900_899.out; have hnc202 := NB899_900.out; have hnb203 := NB900_906.out; have hnc203 := NB906_900.out; obtain ⟨hcz204_0, hcz204_1, hfz204_0, hfz204_1⟩ := bc2_ BK900; have hnb205 := NB906_899.out; have hnc205 := NB899_906.out; obtain ⟨hcz206_0, hcz206_1, hfz206_0, hfz206_1⟩ := bc2_ BK906) | (go_at_call 28; (with_reducible refine (withyref01_Simpler.calls a1_0 a1_1 t903 t904 false _ A173.out).mono ?_); rintro e w207 ⟨rfl, hb⟩; replace BK899 := bkb_ BK899 hb; replace BK900 := bkb_ BK900 hb; replace BK906 := bkb_ BK906 hb; replace BK912 := bkb_ BK912 hb; replace BK916 := bkb_ BK916 hb; replace HB := bws_ HB hb; (try clear hb); (try clear hb2); (try clear hk); (try clear hi)) | (go_at_call 17; (with_reducible refine (withylaw01_summed.calls kj71  t927 _ A191.out).mono ?_); rintro e w208 ⟨rfl, hb⟩; replace BK899 := bkb_ BK899 hb; replace BK900 := bkb_ BK900 hb; replace BK906 := bkb_ BK906 hb; replace BK912 := bkb_ BK912 hb; replace BK916 := bkb_ BK916 hb; replace HB := bws_ HB hb; (try clear hb); (try clear hb2); (try clear hk); (try clear hi)))
                             go_ret
                             exact ⟨by first | rfl | (simp [*] <;> rfl), bw_ HB⟩
                         · rw [if_neg c172] at H
                           have c172b0 : (t923 == 0) = false := beq_eq_false_iff_ne.mpr c172
                           have c172b1 : (t923 != 0) = true := bne_iff_ne.mpr c172
                           obtain rfl := Option.some.inj H
                           have hnb209 := NB916_899.out
                           have hnc209 := NB899_916.out
                           have hnb210 := NB916_900.out
                           have hnc210 := NB900_916.out
                           have hnb211 := NB916_906.out
                           have hnc211 := NB906_916.out
                           have hnb212 := NB916_912.out
                           have hnc212 := NB912_916.out
                           obtain ⟨hcz213_0, hcz213_1, hfz213_0, hfz213_1⟩ := bc2_ BK916
                           have hnb214 := NB912_899.out
                           have hnc214 := NB899_912.out
                           have hnb215 := NB912_900.out
                           have hnc215 := NB900_912.out
                           have hnb216 := NB912_906.out
                           have hnc216 := NB906_912.out
                           obtain ⟨hcz217_0, hcz217_1, hfz217_0, hfz217_1⟩ := bc2_ BK912
                           go_wp2_with (first | ((with_reducible refine gate_callee (f := 26) rfl ?_); refine gla_ (some 93) Try.func26 #[.agg #[.int .i64 x913000_71, .int .i64 t910], .agg #[.int .i64 t913, .int .i64 t914]] ?_; (with_reducible refine (num_Cmp.calls kj71 x913000_71 t910 t913 t914 t923 t924 _ A157.out).mono ?_); rintro e w218 ⟨rfl, hb⟩; refine ⟨_, rfl, ?_⟩; replace BK899 := bkb_ BK899 hb; replace BK900 := bkb_ BK900 hb; replace BK906 := bkb_ BK906 hb; replace BK912 := bkb_ BK912 hb; replace BK916 := bkb_ BK916 hb; replace HB := bws_ HB hb; (try clear hb); (try clear hb2); (try clear hk); (try clear hi)))
                           go_ret
                           exact ⟨by first | rfl | (simp [*] <;> rfl), bw_ HB⟩
                     · rw [if_neg c158] at H
                       have c158b0 : (t924 == 0) = false := beq_eq_false_iff_ne.mpr c158
                       have c158b1 : (t924 != 0) = true := bne_iff_ne.mpr c158
                       obtain rfl := Option.some.inj H
                       have hnb219 := NB916_899.out
                       have hnc219 := NB899_916.out
                       have hnb220 := NB916_900.out
                       have hnc220 := NB900_916.out
                       have hnb221 := NB916_906.out
                       have hnc221 := NB906_916.out
                       have hnb222 := NB916_912.out
                       have hnc222 := NB912_916.out
                       obtain ⟨hcz223_0, hcz223_1, hfz223_0, hfz223_1⟩ := bc2_ BK916
                       have hnb224 := NB912_899.out
                       have hnc224 := NB899_912.out
                       have hnb225 := NB912_900.out
                       have hnc225 := NB900_912.out
                       have hnb226 := NB912_906.out
                       have hnc226 := NB906_912.out
                       obtain ⟨hcz227_0, hcz227_1, hfz227_0, hfz227_1⟩ := bc2_ BK912
                       go_wp2_with (first | ((with_reducible refine gate_callee (f := 26) rfl ?_); refine gla_ (some 93) Try.func26 #[.agg #[.int .i64 x913000_71, .int .i64 t910], .agg #[.int .i64 t913, .int .i64 t914]] ?_; (with_reducible refine (num_Cmp.calls kj71 x913000_71 t910 t913 t914 t923 t924 _ A157.out).mono ?_); rintro e w228 ⟨rfl, hb⟩; refine ⟨_, rfl, ?_⟩; replace BK899 := bkb_ BK899 hb; replace BK900 := bkb_ BK900 hb; replace BK906 := bkb_ BK906 hb; replace BK912 := bkb_ BK912 hb; replace BK916 := bkb_ BK916 hb; replace HB := bws_ HB hb; (try clear hb); (try clear hb2); (try clear hk); (try clear hi)))
                       go_ret
                       exact ⟨by first | rfl | (simp [*] <;> rfl), bw_ HB⟩
 · replace c5 := Bool.eq_false_iff.mpr c5
   subst c5
   have H1 : ((withylaw01_summed.f k).bind fun t902 => (some t902)) = some r := by rw [if_neg (show ¬ (false = true) by decide)] at H; exact H
   clear H
   have H := H1
   clear H1
   replace H := Option.bind_eq_some_iff.mp H
   obtain ⟨t902, A2290, H⟩ := H
   replace H : (some t902) = some r := H
   have A229 := Aside0.mk A2290
   clear A2290
   obtain rfl := Option.some.inj H
   as_aux_lemma =>
    go_enter Try.func13, Try.ntmps13
    go_wp2_with (first | ((with_reducible refine gate_dst (N := 3) rfl ?_); refine box_event ?hg (N := 3) ?hd (cs := #[.int .i64 a0_0, .int .i64 a0_1]) (t := 23) ?hr ?_; (case hd => rfl); (case hg => rfl); (case hr => first | (go_simp; done) | (go_simp; rfl)); intro gb899 hg w230 hbox hb; have BK899 := Aside0.mk hbox; have GW899 := bwg_ HB hg; have GE899 := bwg_ HB hg; replace HB := bws_ HB hb; clear hb hbox hg) | ((with_reducible refine gate_dst (N := 4) rfl ?_); refine box_event ?hg (N := 4) ?hd (cs := #[.int .i64 a1_0, .int .i64 a1_1]) (t := 23) ?hr ?_; (case hd => rfl); (case hg => rfl); (case hr => first | (go_simp; done) | (go_simp; rfl)); intro gb900 hg w231 hbox hb; have BK900 := Aside0.mk hbox; have GW900 := bwg_ HB hg; have GE900 := bwg_ HB hg; replace HB := bws_ HB hb; have NB899_900 := bkl_ BK899 hg; have NB900_899 := bkr_ BK899 hg; replace BK899 := bkb_ BK899 hb; clear hb hbox hg; have hnb232 := NB899_900.out; have hnc232 := NB900_899.out; obtain ⟨hcz233_0, hcz233_1, hfz233_0, hfz233_1⟩ := bc2_ BK899; obtain ⟨hcz234_0, hcz234_1, hfz234_0, hfz234_1⟩ := bc2_ BK900) | ((with_reducible refine gate_callee (f := 16) rfl ?_); refine gla_ (some 19) Try.func16 #[.agg #[.int .i64 a0_0, .int .i64 a0_1], .agg #[.int .i64 a1_0, .int .i64 a1_1], .agg #[.int .i64 a1_0, .int .i64 a1_1]] ?_; (with_reducible refine (withylaw01_fit.calls k a0_0 a0_1 a1_0 a1_1 a1_0 a1_1 false _ A4.out).mono ?_); rintro e w235 ⟨rfl, hb⟩; refine ⟨_, rfl, ?_⟩; replace BK899 := bkb_ BK899 hb; replace BK900 := bkb_ BK900 hb; replace HB := bws_ HB hb; (try clear hb); (try clear hb2); (try clear hk); (try clear hi)) | ((with_reducible refine gate_callee (f := 17) rfl ?_); refine gla_ (some 21) Try.func17 #[] ?_; (with_reducible refine (withylaw01_summed.calls k  t902 _ A229.out).mono ?_); rintro e w236 ⟨rfl, hb⟩; refine ⟨_, rfl, ?_⟩; replace BK899 := bkb_ BK899 hb; replace BK900 := bkb_ BK900 hb; replace HB := bws_ HB hb; (try clear hb); (try clear hb2); (try clear hk); (try clear hi)))
    go_ret
    exact ⟨by first | rfl | (simp [*] <;> rfl), bw_ HB⟩
end Go.Proofs.Ytakcdoahpbeckaa.H
