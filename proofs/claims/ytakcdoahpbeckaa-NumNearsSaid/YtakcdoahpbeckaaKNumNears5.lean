/- NumNears: the printed functions it reaches, with their walks. Laid by wip/claimpack.py out of what wip/hprint.py printed. -/
import Derived.Test.YtakcdoahpbeckaaKNumNears4
namespace Go.Proofs.Ytakcdoahpbeckaa.H
open Go.RowKit Go.Proofs.YtakcdoahpbeckaaW.PrintWords Go.Proofs.YtakcdoahpbeckaaW.PrintLast Go.Proofs.YtakcdoahpbeckaaW.PrintMore
attribute [local go_sem] max2_int min2_int max_two min_two max_three min_three max_four min_four   -- for this text's walks alone
set_option linter.unusedVariables false
set_option linter.unusedSimpArgs false

attribute [local go_sem high] eqA23
/-! ### withylaw01_summed: function 17 -/
def withylaw01_summed.f (k : Nat)  : Option (Bool) := (num_Add.f k 1 2 1 3).bind fun bt240 => ((num_Simplest.f k 1 3 1 2).bind fun bt244 => ((num_Decimal.f k (-1) 8 2).bind fun bt248 => ((num_Parse.f k (⟨#[49, 46, 50, 53]⟩ : ByteArray)).bind fun bt250 => (if bt240.2.2 = 0 then (if bt244.2.2 = 0 then (if bt248.2 = 0 then (if bt250.2.2 = 0 then (if (bt240.1 == 5 && (bt240.2.1 == 6)) = true then (if (bt244.1 == 2 && (bt244.2.1 == 5)) = true then (if bt248.1.toList = ([45, 48, 46, 49, 50] : List UInt8) then (some (bt250.1 == 5 && (bt250.2.1 == 4))) else (some false)) else (some false)) else (some false)) else (some false)) else (some false)) else (some false)) else (some false)))))
theorem withylaw01_summed.mono : ∀ k, LeO (withylaw01_summed.f k ) (withylaw01_summed.f (k + 1) ) := by
  intro  k
  unfold withylaw01_summed.f
  repeat' first
      | (with_reducible exact num_Add.mono _ _ _ _ _)
      | (with_reducible exact num_Decimal.mono _ _ _ _)
      | (with_reducible exact num_Parse.mono _ _)
      | (with_reducible exact num_Simplest.mono _ _ _ _ _)
      | (with_reducible exact LeO.refl _)
      | (with_reducible exact LeO.none _)
      | (with_reducible refine LeO.ite ?_ ?_)
      | (with_reducible refine LeO.bind ?_ (fun _ => ?_))
      | (with_reducible refine LeO.exc (fun _ => ?_) (fun _ => ?_))
      | exact num_Add.mono _ _ _ _ _
      | exact num_Decimal.mono _ _ _ _
      | exact num_Parse.mono _ _
      | exact num_Simplest.mono _ _ _ _ _
      | exact LeO.none _
      | refine LeO.ite ?_ ?_
      | refine LeO.bind ?_ (fun _ => ?_)
set_option maxHeartbeats 8000000 in
set_option maxRecDepth 100000 in
theorem withylaw01_summed.calls (k : Nat)  (r : Bool) (w : World) (h : withylaw01_summed.f k  = some r) :
    Calls Try.prog 17 #[] w fun e w' => e = .returned (.bool r) ∧ Below w.heap.size w w' := by
 have hu23 := Try.underlying23
 have HB := Aside0.mk (Below.refl w.heap.size w)
 have H : ((num_Add.f k 1 2 1 3).bind fun bt240 => ((num_Simplest.f k 1 3 1 2).bind fun bt244 => ((num_Decimal.f k (-1) 8 2).bind fun bt248 => ((num_Parse.f k (⟨#[49, 46, 50, 53]⟩ : ByteArray)).bind fun bt250 => (if bt240.2.2 = 0 then (if bt244.2.2 = 0 then (if bt248.2 = 0 then (if bt250.2.2 = 0 then (if (bt240.1 == 5 && (bt240.2.1 == 6)) = true then (if (bt244.1 == 2 && (bt244.2.1 == 5)) = true then (if bt248.1.toList = ([45, 48, 46, 49, 50] : List UInt8) then (some (bt250.1 == 5 && (bt250.2.1 == 4))) else (some false)) else (some false)) else (some false)) else (some false)) else (some false)) else (some false)) else (some false)))))) = some r := h
 clear h
 replace H := Option.bind_eq_some_iff.mp H
 obtain ⟨⟨t240, t241, t242⟩, A10, H⟩ := H
 replace H : ((num_Simplest.f k 1 3 1 2).bind fun bt244 => ((num_Decimal.f k (-1) 8 2).bind fun bt248 => ((num_Parse.f k (⟨#[49, 46, 50, 53]⟩ : ByteArray)).bind fun bt250 => (if t242 = 0 then (if bt244.2.2 = 0 then (if bt248.2 = 0 then (if bt250.2.2 = 0 then (if (t240 == 5 && (t241 == 6)) = true then (if (bt244.1 == 2 && (bt244.2.1 == 5)) = true then (if bt248.1.toList = ([45, 48, 46, 49, 50] : List UInt8) then (some (bt250.1 == 5 && (bt250.2.1 == 4))) else (some false)) else (some false)) else (some false)) else (some false)) else (some false)) else (some false)) else (some false))))) = some r := H
 have A1 := Aside0.mk A10
 clear A10
 replace H := Option.bind_eq_some_iff.mp H
 obtain ⟨⟨t244, t245, t246⟩, A20, H⟩ := H
 replace H : ((num_Decimal.f k (-1) 8 2).bind fun bt248 => ((num_Parse.f k (⟨#[49, 46, 50, 53]⟩ : ByteArray)).bind fun bt250 => (if t242 = 0 then (if t246 = 0 then (if bt248.2 = 0 then (if bt250.2.2 = 0 then (if (t240 == 5 && (t241 == 6)) = true then (if (t244 == 2 && (t245 == 5)) = true then (if bt248.1.toList = ([45, 48, 46, 49, 50] : List UInt8) then (some (bt250.1 == 5 && (bt250.2.1 == 4))) else (some false)) else (some false)) else (some false)) else (some false)) else (some false)) else (some false)) else (some false)))) = some r := H
 have A2 := Aside0.mk A20
 clear A20
 replace H := Option.bind_eq_some_iff.mp H
 obtain ⟨⟨t248, t249⟩, A30, H⟩ := H
 replace H : ((num_Parse.f k (⟨#[49, 46, 50, 53]⟩ : ByteArray)).bind fun bt250 => (if t242 = 0 then (if t246 = 0 then (if t249 = 0 then (if bt250.2.2 = 0 then (if (t240 == 5 && (t241 == 6)) = true then (if (t244 == 2 && (t245 == 5)) = true then (if t248.toList = ([45, 48, 46, 49, 50] : List UInt8) then (some (bt250.1 == 5 && (bt250.2.1 == 4))) else (some false)) else (some false)) else (some false)) else (some false)) else (some false)) else (some false)) else (some false))) = some r := H
 have A3 := Aside0.mk A30
 clear A30
 replace H := Option.bind_eq_some_iff.mp H
 obtain ⟨⟨t250, t251, t252⟩, A40, H⟩ := H
 replace H : (if t242 = 0 then (if t246 = 0 then (if t249 = 0 then (if t252 = 0 then (if (t240 == 5 && (t241 == 6)) = true then (if (t244 == 2 && (t245 == 5)) = true then (if t248.toList = ([45, 48, 46, 49, 50] : List UInt8) then (some (t250 == 5 && (t251 == 4))) else (some false)) else (some false)) else (some false)) else (some false)) else (some false)) else (some false)) else (some false)) = some r := H
 have A4 := Aside0.mk A40
 clear A40
 by_cases c5 : t242 = 0
 · rw [if_pos c5] at H
   have c5b0 : (t242 == 0) = true := beq_iff_eq.mpr c5
   have c5b1 : (t242 != 0) = false := bne_eq_false_iff_eq.mpr c5
   clear c5
   by_cases c6 : t246 = 0
   · rw [if_pos c6] at H
     have c6b0 : (t246 == 0) = true := beq_iff_eq.mpr c6
     have c6b1 : (t246 != 0) = false := bne_eq_false_iff_eq.mpr c6
     clear c6
     by_cases c7 : t249 = 0
     · rw [if_pos c7] at H
       have c7b0 : (t249 == 0) = true := beq_iff_eq.mpr c7
       have c7b1 : (t249 != 0) = false := bne_eq_false_iff_eq.mpr c7
       clear c7
       by_cases c8 : t252 = 0
       · rw [if_pos c8] at H
         have c8b0 : (t252 == 0) = true := beq_iff_eq.mpr c8
         have c8b1 : (t252 != 0) = false := bne_eq_false_iff_eq.mpr c8
         clear c8
         by_cases c9 : (t240 == 5 && (t241 == 6)) = true
         · rw [if_pos c9] at H
           have c9b0 : (t240 == 5 && (t241 == 6)) = true := c9
           (try (have c9b1 : decide (t240 = 5 && (t241 == 6)) = true := by simpa using c9))
           (try (have c9b2 : (t240 == 5 && (t241 == 6)) = true := by simpa using c9))
           clear c9
           by_cases c10 : (t244 == 2 && (t245 == 5)) = true
           · rw [if_pos c10] at H
             have c10b0 : (t244 == 2 && (t245 == 5)) = true := c10
             (try (have c10b1 : decide (t244 = 2 && (t245 == 5)) = true := by simpa using c10))
             (try (have c10b2 : (t244 == 2 && (t245 == 5)) = true := by simpa using c10))
             clear c10
             by_cases c11 : t248.toList = ([45, 48, 46, 49, 50] : List UInt8)
             · rw [if_pos c11] at H
               have c11b0 : (t248.toList == ([45, 48, 46, 49, 50] : List UInt8)) = true := beq_iff_eq.mpr c11
               have c11b1 : (t248.toList != ([45, 48, 46, 49, 50] : List UInt8)) = false := bne_eq_false_iff_eq.mpr c11
               clear c11
               obtain rfl := Option.some.inj H
               go_enter Try.func17, Try.ntmps17
               go_wp2_with (first | ((with_reducible refine gate_callee (f := 18) rfl ?_); refine gla_ (some 12) Try.func18 #[.agg #[.int .i64 1, .int .i64 2], .agg #[.int .i64 1, .int .i64 3]] ?_; (with_reducible refine (num_Add.calls k 1 2 1 3 t240 t241 t242 _ A1.out).mono ?_); rintro e w12 ⟨rfl, hb⟩; refine ⟨_, rfl, ?_⟩; replace HB := bws_ HB hb; (try clear hb); (try clear hb2); (try clear hk); (try clear hi)) | ((with_reducible refine gate_dst (N := 1) rfl ?_); refine box_event ?hg (N := 1) ?hd (cs := #[.int .i64 0, .int .i64 0]) (t := 23) ?hr ?_; (case hd => rfl); (case hg => rfl); (case hr => first | (go_simp; done) | (go_simp; rfl)); intro gb243 hg w13 hbox hb; have BK243 := Aside0.mk hbox; have GW243 := bwg_ HB hg; have GE243 := bwg_ HB hg; replace HB := bws_ HB hb; clear hb hbox hg; obtain ⟨hcz14_0, hcz14_1, hfz14_0, hfz14_1⟩ := bc2_ BK243) | ((with_reducible refine gate_callee (f := 25) rfl ?_); refine gla_ (some 18) Try.func25 #[.agg #[.int .i64 1, .int .i64 3], .agg #[.int .i64 1, .int .i64 2]] ?_; (with_reducible refine (num_Simplest.calls k 1 3 1 2 t244 t245 t246 _ A2.out).mono ?_); rintro e w15 ⟨rfl, hb⟩; refine ⟨_, rfl, ?_⟩; replace BK243 := Aside0.mk (blk_below (g := gb243) (o := .cells #[.int .i64 t240, .int .i64 t241] 23 (0, 0)) (by refine bp_ (cs := #[.int .i64 t240, .int .i64 0]) ?_ 1; refine bp_ (cs := #[.int .i64 0, .int .i64 0]) ?_ 0; exact bk_ BK243) hb); replace HB := bws_ HB hb; (try clear hb); (try clear hb2); (try clear hk); (try clear hi)) | ((with_reducible refine gate_dst (N := 3) rfl ?_); refine box_event ?hg (N := 3) ?hd (cs := #[.int .i64 0, .int .i64 0]) (t := 23) ?hr ?_; (case hd => rfl); (case hg => rfl); (case hr => first | (go_simp; done) | (go_simp; rfl)); intro gb247 hg w16 hbox hb; have BK247 := Aside0.mk hbox; have GW247 := bwg_ HB hg; have GE247 := bwg_ HB hg; replace HB := bws_ HB hb; have NB243_247 := bkl_ BK243 hg; have NB247_243 := bkr_ BK243 hg; replace BK243 := bkb_ BK243 hb; clear hb hbox hg; have hnb17 := NB247_243.out; have hnc17 := NB243_247.out; obtain ⟨hcz18_0, hcz18_1, hfz18_0, hfz18_1⟩ := bc2_ BK247) | ((with_reducible refine gate_callee (f := 35) rfl ?_); refine gla_ (some 23) Try.func35 #[.agg #[.int .i64 (-1), .int .i64 8], .int .i64 2] ?_; (with_reducible refine (num_Decimal.calls k (-1) 8 2 t248 t249 _ A3.out).mono ?_); rintro e w19 ⟨rfl, hb⟩; refine ⟨_, rfl, ?_⟩; replace BK243 := Aside0.mk (blk_below (g := gb243) (o := .cells #[.int .i64 t240, .int .i64 t241] 23 (0, 0)) (by refine bf_ ?_ NB243_247; refine bf_ ?_ NB243_247; exact bk_ BK243) hb); replace BK247 := Aside0.mk (blk_below (g := gb247) (o := .cells #[.int .i64 t244, .int .i64 t245] 23 (0, 0)) (by refine bp_ (cs := #[.int .i64 t244, .int .i64 0]) ?_ 1; refine bp_ (cs := #[.int .i64 0, .int .i64 0]) ?_ 0; exact bk_ BK247) hb); replace HB := bws_ HB hb; (try clear hb); (try clear hb2); (try clear hk); (try clear hi)) | ((with_reducible refine gate_callee (f := 39) rfl ?_); refine gla_ (some 27) Try.func39 #[.string (⟨#[49, 46, 50, 53]⟩ : ByteArray)] ?_; (with_reducible refine (num_Parse.calls k (⟨#[49, 46, 50, 53]⟩ : ByteArray) t250 t251 t252 _ A4.out).mono ?_); rintro e w20 ⟨rfl, hb⟩; refine ⟨_, rfl, ?_⟩; replace BK243 := bkb_ BK243 hb; replace BK247 := bkb_ BK247 hb; replace HB := bws_ HB hb; (try clear hb); (try clear hb2); (try clear hk); (try clear hi)) | ((with_reducible refine gate_dst (N := 7) rfl ?_); refine box_event ?hg (N := 7) ?hd (cs := #[.int .i64 0, .int .i64 0]) (t := 23) ?hr ?_; (case hd => rfl); (case hg => rfl); (case hr => first | (go_simp; done) | (go_simp; rfl)); intro gb253 hg w21 hbox hb; have BK253 := Aside0.mk hbox; have GW253 := bwg_ HB hg; have GE253 := bwg_ HB hg; replace HB := bws_ HB hb; have NB243_253 := bkl_ BK243 hg; have NB253_243 := bkr_ BK243 hg; replace BK243 := bkb_ BK243 hb; have NB247_253 := bkl_ BK247 hg; have NB253_247 := bkr_ BK247 hg; replace BK247 := bkb_ BK247 hb; clear hb hbox hg; have hnb22 := NB253_243.out; have hnc22 := NB243_253.out; have hnb23 := NB253_247.out; have hnc23 := NB247_253.out; obtain ⟨hcz24_0, hcz24_1, hfz24_0, hfz24_1⟩ := bc2_ BK253; obtain ⟨hcz25_0, hcz25_1, hfz25_0, hfz25_1⟩ := bc2_ BK243; obtain ⟨hcz26_0, hcz26_1, hfz26_0, hfz26_1⟩ := bc2_ BK247))
               go_ret
               exact ⟨by first | rfl | (simp [*] <;> rfl), bw_ HB⟩
             · rw [if_neg c11] at H
               have c11b0 : (t248.toList == ([45, 48, 46, 49, 50] : List UInt8)) = false := beq_eq_false_iff_ne.mpr c11
               have c11b1 : (t248.toList != ([45, 48, 46, 49, 50] : List UInt8)) = true := bne_iff_ne.mpr c11
               obtain rfl := Option.some.inj H
               go_enter Try.func17, Try.ntmps17
               go_wp2_with (first | ((with_reducible refine gate_callee (f := 18) rfl ?_); refine gla_ (some 12) Try.func18 #[.agg #[.int .i64 1, .int .i64 2], .agg #[.int .i64 1, .int .i64 3]] ?_; (with_reducible refine (num_Add.calls k 1 2 1 3 t240 t241 t242 _ A1.out).mono ?_); rintro e w27 ⟨rfl, hb⟩; refine ⟨_, rfl, ?_⟩; replace HB := bws_ HB hb; (try clear hb); (try clear hb2); (try clear hk); (try clear hi)) | ((with_reducible refine gate_dst (N := 1) rfl ?_); refine box_event ?hg (N := 1) ?hd (cs := #[.int .i64 0, .int .i64 0]) (t := 23) ?hr ?_; (case hd => rfl); (case hg => rfl); (case hr => first | (go_simp; done) | (go_simp; rfl)); intro gb243 hg w28 hbox hb; have BK243 := Aside0.mk hbox; have GW243 := bwg_ HB hg; have GE243 := bwg_ HB hg; replace HB := bws_ HB hb; clear hb hbox hg; obtain ⟨hcz29_0, hcz29_1, hfz29_0, hfz29_1⟩ := bc2_ BK243) | ((with_reducible refine gate_callee (f := 25) rfl ?_); refine gla_ (some 18) Try.func25 #[.agg #[.int .i64 1, .int .i64 3], .agg #[.int .i64 1, .int .i64 2]] ?_; (with_reducible refine (num_Simplest.calls k 1 3 1 2 t244 t245 t246 _ A2.out).mono ?_); rintro e w30 ⟨rfl, hb⟩; refine ⟨_, rfl, ?_⟩; replace BK243 := Aside0.mk (blk_below (g := gb243) (o := .cells #[.int .i64 t240, .int .i64 t241] 23 (0, 0)) (by refine bp_ (cs := #[.int .i64 t240, .int .i64 0]) ?_ 1; refine bp_ (cs := #[.int .i64 0, .int .i64 0]) ?_ 0; exact bk_ BK243) hb); replace HB := bws_ HB hb; (try clear hb); (try clear hb2); (try clear hk); (try clear hi)) | ((with_reducible refine gate_dst (N := 3) rfl ?_); refine box_event ?hg (N := 3) ?hd (cs := #[.int .i64 0, .int .i64 0]) (t := 23) ?hr ?_; (case hd => rfl); (case hg => rfl); (case hr => first | (go_simp; done) | (go_simp; rfl)); intro gb247 hg w31 hbox hb; have BK247 := Aside0.mk hbox; have GW247 := bwg_ HB hg; have GE247 := bwg_ HB hg; replace HB := bws_ HB hb; have NB243_247 := bkl_ BK243 hg; have NB247_243 := bkr_ BK243 hg; replace BK243 := bkb_ BK243 hb; clear hb hbox hg; have hnb32 := NB247_243.out; have hnc32 := NB243_247.out; obtain ⟨hcz33_0, hcz33_1, hfz33_0, hfz33_1⟩ := bc2_ BK247) | ((with_reducible refine gate_callee (f := 35) rfl ?_); refine gla_ (some 23) Try.func35 #[.agg #[.int .i64 (-1), .int .i64 8], .int .i64 2] ?_; (with_reducible refine (num_Decimal.calls k (-1) 8 2 t248 t249 _ A3.out).mono ?_); rintro e w34 ⟨rfl, hb⟩; refine ⟨_, rfl, ?_⟩; replace BK243 := Aside0.mk (blk_below (g := gb243) (o := .cells #[.int .i64 t240, .int .i64 t241] 23 (0, 0)) (by refine bf_ ?_ NB243_247; refine bf_ ?_ NB243_247; exact bk_ BK243) hb); replace BK247 := Aside0.mk (blk_below (g := gb247) (o := .cells #[.int .i64 t244, .int .i64 t245] 23 (0, 0)) (by refine bp_ (cs := #[.int .i64 t244, .int .i64 0]) ?_ 1; refine bp_ (cs := #[.int .i64 0, .int .i64 0]) ?_ 0; exact bk_ BK247) hb); replace HB := bws_ HB hb; (try clear hb); (try clear hb2); (try clear hk); (try clear hi)) | ((with_reducible refine gate_callee (f := 39) rfl ?_); refine gla_ (some 27) Try.func39 #[.string (⟨#[49, 46, 50, 53]⟩ : ByteArray)] ?_; (with_reducible refine (num_Parse.calls k (⟨#[49, 46, 50, 53]⟩ : ByteArray) t250 t251 t252 _ A4.out).mono ?_); rintro e w35 ⟨rfl, hb⟩; refine ⟨_, rfl, ?_⟩; replace BK243 := bkb_ BK243 hb; replace BK247 := bkb_ BK247 hb; replace HB := bws_ HB hb; (try clear hb); (try clear hb2); (try clear hk); (try clear hi)) | ((with_reducible refine gate_dst (N := 7) rfl ?_); refine box_event ?hg (N := 7) ?hd (cs := #[.int .i64 0, .int .i64 0]) (t := 23) ?hr ?_; (case hd => rfl); (case hg => rfl); (case hr => first | (go_simp; done) | (go_simp; rfl)); intro gb253 hg w36 hbox hb; have BK253 := Aside0.mk hbox; have GW253 := bwg_ HB hg; have GE253 := bwg_ HB hg; replace HB := bws_ HB hb; have NB243_253 := bkl_ BK243 hg; have NB253_243 := bkr_ BK243 hg; replace BK243 := bkb_ BK243 hb; have NB247_253 := bkl_ BK247 hg; have NB253_247 := bkr_ BK247 hg; replace BK247 := bkb_ BK247 hb; clear hb hbox hg; have hnb37 := NB253_243.out; have hnc37 := NB243_253.out; have hnb38 := NB253_247.out; have hnc38 := NB247_253.out; obtain ⟨hcz39_0, hcz39_1, hfz39_0, hfz39_1⟩ := bc2_ BK253; obtain ⟨hcz40_0, hcz40_1, hfz40_0, hfz40_1⟩ := bc2_ BK243; obtain ⟨hcz41_0, hcz41_1, hfz41_0, hfz41_1⟩ := bc2_ BK247))
               go_ret
               exact ⟨by first | rfl | (simp [*] <;> rfl), bw_ HB⟩
           · rw [if_neg c10] at H
             have c10b0 : (t244 == 2 && (t245 == 5)) = false := by simpa using c10
             (try (have c10b1 : decide (t244 = 2 && (t245 == 5)) = false := by simpa using c10))
             (try (have c10b2 : (t244 == 2 && (t245 == 5)) = false := by simpa using c10))
             (try (have c10b3 : ¬ (t244 = 2 && (t245 == 5)) := by simpa using c10))
             clear c10
             obtain rfl := Option.some.inj H
             go_enter Try.func17, Try.ntmps17
             go_wp2_with (first | ((with_reducible refine gate_callee (f := 18) rfl ?_); refine gla_ (some 12) Try.func18 #[.agg #[.int .i64 1, .int .i64 2], .agg #[.int .i64 1, .int .i64 3]] ?_; (with_reducible refine (num_Add.calls k 1 2 1 3 t240 t241 t242 _ A1.out).mono ?_); rintro e w42 ⟨rfl, hb⟩; refine ⟨_, rfl, ?_⟩; replace HB := bws_ HB hb; (try clear hb); (try clear hb2); (try clear hk); (try clear hi)) | ((with_reducible refine gate_dst (N := 1) rfl ?_); refine box_event ?hg (N := 1) ?hd (cs := #[.int .i64 0, .int .i64 0]) (t := 23) ?hr ?_; (case hd => rfl); (case hg => rfl); (case hr => first | (go_simp; done) | (go_simp; rfl)); intro gb243 hg w43 hbox hb; have BK243 := Aside0.mk hbox; have GW243 := bwg_ HB hg; have GE243 := bwg_ HB hg; replace HB := bws_ HB hb; clear hb hbox hg; obtain ⟨hcz44_0, hcz44_1, hfz44_0, hfz44_1⟩ := bc2_ BK243) | ((with_reducible refine gate_callee (f := 25) rfl ?_); refine gla_ (some 18) Try.func25 #[.agg #[.int .i64 1, .int .i64 3], .agg #[.int .i64 1, .int .i64 2]] ?_; (with_reducible refine (num_Simplest.calls k 1 3 1 2 t244 t245 t246 _ A2.out).mono ?_); rintro e w45 ⟨rfl, hb⟩; refine ⟨_, rfl, ?_⟩; replace BK243 := Aside0.mk (blk_below (g := gb243) (o := .cells #[.int .i64 t240, .int .i64 t241] 23 (0, 0)) (by refine bp_ (cs := #[.int .i64 t240, .int .i64 0]) ?_ 1; refine bp_ (cs := #[.int .i64 0, .int .i64 0]) ?_ 0; exact bk_ BK243) hb); replace HB := bws_ HB hb; (try clear hb); (try clear hb2); (try clear hk); (try clear hi)) | ((with_reducible refine gate_dst (N := 3) rfl ?_); refine box_event ?hg (N := 3) ?hd (cs := #[.int .i64 0, .int .i64 0]) (t := 23) ?hr ?_; (case hd => rfl); (case hg => rfl); (case hr => first | (go_simp; done) | (go_simp; rfl)); intro gb247 hg w46 hbox hb; have BK247 := Aside0.mk hbox; have GW247 := bwg_ HB hg; have GE247 := bwg_ HB hg; replace HB := bws_ HB hb; have NB243_247 := bkl_ BK243 hg; have NB247_243 := bkr_ BK243 hg; replace BK243 := bkb_ BK243 hb; clear hb hbox hg; have hnb47 := NB247_243.out; have hnc47 := NB243_247.out; obtain ⟨hcz48_0, hcz48_1, hfz48_0, hfz48_1⟩ := bc2_ BK247) | ((with_reducible refine gate_callee (f := 35) rfl ?_); refine gla_ (some 23) Try.func35 #[.agg #[.int .i64 (-1), .int .i64 8], .int .i64 2] ?_; (with_reducible refine (num_Decimal.calls k (-1) 8 2 t248 t249 _ A3.out).mono ?_); rintro e w49 ⟨rfl, hb⟩; refine ⟨_, rfl, ?_⟩; replace BK243 := Aside0.mk (blk_below (g := gb243) (o := .cells #[.int .i64 t240, .int .i64 t241] 23 (0, 0)) (by refine bf_ ?_ NB243_247; refine bf_ ?_ NB243_247; exact bk_ BK243) hb); replace BK247 := Aside0.mk (blk_below (g := gb247) (o := .cells #[.int .i64 t244, .int .i64 t245] 23 (0, 0)) (by refine bp_ (cs := #[.int .i64 t244, .int .i64 0]) ?_ 1; refine bp_ (cs := #[.int .i64 0, .int .i64 0]) ?_ 0; exact bk_ BK247) hb); replace HB := bws_ HB hb; (try clear hb); (try clear hb2); (try clear hk); (try clear hi)) | ((with_reducible refine gate_callee (f := 39) rfl ?_); refine gla_ (some 27) Try.func39 #[.string (⟨#[49, 46, 50, 53]⟩ : ByteArray)] ?_; (with_reducible refine (num_Parse.calls k (⟨#[49, 46, 50, 53]⟩ : ByteArray) t250 t251 t252 _ A4.out).mono ?_); rintro e w50 ⟨rfl, hb⟩; refine ⟨_, rfl, ?_⟩; replace BK243 := bkb_ BK243 hb; replace BK247 := bkb_ BK247 hb; replace HB := bws_ HB hb; (try clear hb); (try clear hb2); (try clear hk); (try clear hi)) | ((with_reducible refine gate_dst (N := 7) rfl ?_); refine box_event ?hg (N := 7) ?hd (cs := #[.int .i64 0, .int .i64 0]) (t := 23) ?hr ?_; (case hd => rfl); (case hg => rfl); (case hr => first | (go_simp; done) | (go_simp; rfl)); intro gb253 hg w51 hbox hb; have BK253 := Aside0.mk hbox; have GW253 := bwg_ HB hg; have GE253 := bwg_ HB hg; replace HB := bws_ HB hb; have NB243_253 := bkl_ BK243 hg; have NB253_243 := bkr_ BK243 hg; replace BK243 := bkb_ BK243 hb; have NB247_253 := bkl_ BK247 hg; have NB253_247 := bkr_ BK247 hg; replace BK247 := bkb_ BK247 hb; clear hb hbox hg; have hnb52 := NB253_243.out; have hnc52 := NB243_253.out; have hnb53 := NB253_247.out; have hnc53 := NB247_253.out; obtain ⟨hcz54_0, hcz54_1, hfz54_0, hfz54_1⟩ := bc2_ BK253; obtain ⟨hcz55_0, hcz55_1, hfz55_0, hfz55_1⟩ := bc2_ BK243; obtain ⟨hcz56_0, hcz56_1, hfz56_0, hfz56_1⟩ := bc2_ BK247))
             go_ret
             exact ⟨by first | rfl | (simp [*] <;> rfl), bw_ HB⟩
         · rw [if_neg c9] at H
           have c9b0 : (t240 == 5 && (t241 == 6)) = false := by simpa using c9
           (try (have c9b1 : decide (t240 = 5 && (t241 == 6)) = false := by simpa using c9))
           (try (have c9b2 : (t240 == 5 && (t241 == 6)) = false := by simpa using c9))
           (try (have c9b3 : ¬ (t240 = 5 && (t241 == 6)) := by simpa using c9))
           clear c9
           obtain rfl := Option.some.inj H
           go_enter Try.func17, Try.ntmps17
           go_wp2_with (first | ((with_reducible refine gate_callee (f := 18) rfl ?_); refine gla_ (some 12) Try.func18 #[.agg #[.int .i64 1, .int .i64 2], .agg #[.int .i64 1, .int .i64 3]] ?_; (with_reducible refine (num_Add.calls k 1 2 1 3 t240 t241 t242 _ A1.out).mono ?_); rintro e w57 ⟨rfl, hb⟩; refine ⟨_, rfl, ?_⟩; replace HB := bws_ HB hb; (try clear hb); (try clear hb2); (try clear hk); (try clear hi)) | ((with_reducible refine gate_dst (N := 1) rfl ?_); refine box_event ?hg (N := 1) ?hd (cs := #[.int .i64 0, .int .i64 0]) (t := 23) ?hr ?_; (case hd => rfl); (case hg => rfl); (case hr => first | (go_simp; done) | (go_simp; rfl)); intro gb243 hg w58 hbox hb; have BK243 := Aside0.mk hbox; have GW243 := bwg_ HB hg; have GE243 := bwg_ HB hg; replace HB := bws_ HB hb; clear hb hbox hg; obtain ⟨hcz59_0, hcz59_1, hfz59_0, hfz59_1⟩ := bc2_ BK243) | ((with_reducible refine gate_callee (f := 25) rfl ?_); refine gla_ (some 18) Try.func25 #[.agg #[.int .i64 1, .int .i64 3], .agg #[.int .i64 1, .int .i64 2]] ?_; (with_reducible refine (num_Simplest.calls k 1 3 1 2 t244 t245 t246 _ A2.out).mono ?_); rintro e w60 ⟨rfl, hb⟩; refine ⟨_, rfl, ?_⟩; replace BK243 := Aside0.mk (blk_below (g := gb243) (o := .cells #[.int .i64 t240, .int .i64 t241] 23 (0, 0)) (by refine bp_ (cs := #[.int .i64 t240, .int .i64 0]) ?_ 1; refine bp_ (cs := #[.int .i64 0, .int .i64 0]) ?_ 0; exact bk_ BK243) hb); replace HB := bws_ HB hb; (try clear hb); (try clear hb2); (try clear hk); (try clear hi)) | ((with_reducible refine gate_dst (N := 3) rfl ?_); refine box_event ?hg (N := 3) ?hd (cs := #[.int .i64 0, .int .i64 0]) (t := 23) ?hr ?_; (case hd => rfl); (case hg => rfl); (case hr => first | (go_simp; done) | (go_simp; rfl)); intro gb247 hg w61 hbox hb; have BK247 := Aside0.mk hbox; have GW247 := bwg_ HB hg; have GE247 := bwg_ HB hg; replace HB := bws_ HB hb; have NB243_247 := bkl_ BK243 hg; have NB247_243 := bkr_ BK243 hg; replace BK243 := bkb_ BK243 hb; clear hb hbox hg; have hnb62 := NB247_243.out; have hnc62 := NB243_247.out; obtain ⟨hcz63_0, hcz63_1, hfz63_0, hfz63_1⟩ := bc2_ BK247) | ((with_reducible refine gate_callee (f := 35) rfl ?_); refine gla_ (some 23) Try.func35 #[.agg #[.int .i64 (-1), .int .i64 8], .int .i64 2] ?_; (with_reducible refine (num_Decimal.calls k (-1) 8 2 t248 t249 _ A3.out).mono ?_); rintro e w64 ⟨rfl, hb⟩; refine ⟨_, rfl, ?_⟩; replace BK243 := Aside0.mk (blk_below (g := gb243) (o := .cells #[.int .i64 t240, .int .i64 t241] 23 (0, 0)) (by refine bf_ ?_ NB243_247; refine bf_ ?_ NB243_247; exact bk_ BK243) hb); replace BK247 := Aside0.mk (blk_below (g := gb247) (o := .cells #[.int .i64 t244, .int .i64 t245] 23 (0, 0)) (by refine bp_ (cs := #[.int .i64 t244, .int .i64 0]) ?_ 1; refine bp_ (cs := #[.int .i64 0, .int .i64 0]) ?_ 0; exact bk_ BK247) hb); replace HB := bws_ HB hb; (try clear hb); (try clear hb2); (try clear hk); (try clear hi)) | ((with_reducible refine gate_callee (f := 39) rfl ?_); refine gla_ (some 27) Try.func39 #[.string (⟨#[49, 46, 50, 53]⟩ : ByteArray)] ?_; (with_reducible refine (num_Parse.calls k (⟨#[49, 46, 50, 53]⟩ : ByteArray) t250 t251 t252 _ A4.out).mono ?_); rintro e w65 ⟨rfl, hb⟩; refine ⟨_, rfl, ?_⟩; replace BK243 := bkb_ BK243 hb; replace BK247 := bkb_ BK247 hb; replace HB := bws_ HB hb; (try clear hb); (try clear hb2); (try clear hk); (try clear hi)) | ((with_reducible refine gate_dst (N := 7) rfl ?_); refine box_event ?hg (N := 7) ?hd (cs := #[.int .i64 0, .int .i64 0]) (t := 23) ?hr ?_; (case hd => rfl); (case hg => rfl); (case hr => first | (go_simp; done) | (go_simp; rfl)); intro gb253 hg w66 hbox hb; have BK253 := Aside0.mk hbox; have GW253 := bwg_ HB hg; have GE253 := bwg_ HB hg; replace HB := bws_ HB hb; have NB243_253 := bkl_ BK243 hg; have NB253_243 := bkr_ BK243 hg; replace BK243 := bkb_ BK243 hb; have NB247_253 := bkl_ BK247 hg; have NB253_247 := bkr_ BK247 hg; replace BK247 := bkb_ BK247 hb; clear hb hbox hg; have hnb67 := NB253_243.out; have hnc67 := NB243_253.out; have hnb68 := NB253_247.out; have hnc68 := NB247_253.out; obtain ⟨hcz69_0, hcz69_1, hfz69_0, hfz69_1⟩ := bc2_ BK253; obtain ⟨hcz70_0, hcz70_1, hfz70_0, hfz70_1⟩ := bc2_ BK243))
           go_ret
           exact ⟨by first | rfl | (simp [*] <;> rfl), bw_ HB⟩
       · rw [if_neg c8] at H
         have c8b0 : (t252 == 0) = false := beq_eq_false_iff_ne.mpr c8
         have c8b1 : (t252 != 0) = true := bne_iff_ne.mpr c8
         obtain rfl := Option.some.inj H
         go_enter Try.func17, Try.ntmps17
         go_wp2_with (first | ((with_reducible refine gate_callee (f := 18) rfl ?_); refine gla_ (some 12) Try.func18 #[.agg #[.int .i64 1, .int .i64 2], .agg #[.int .i64 1, .int .i64 3]] ?_; (with_reducible refine (num_Add.calls k 1 2 1 3 t240 t241 t242 _ A1.out).mono ?_); rintro e w71 ⟨rfl, hb⟩; refine ⟨_, rfl, ?_⟩; replace HB := bws_ HB hb; (try clear hb); (try clear hb2); (try clear hk); (try clear hi)) | ((with_reducible refine gate_dst (N := 1) rfl ?_); refine box_event ?hg (N := 1) ?hd (cs := #[.int .i64 0, .int .i64 0]) (t := 23) ?hr ?_; (case hd => rfl); (case hg => rfl); (case hr => first | (go_simp; done) | (go_simp; rfl)); intro gb243 hg w72 hbox hb; have BK243 := Aside0.mk hbox; have GW243 := bwg_ HB hg; have GE243 := bwg_ HB hg; replace HB := bws_ HB hb; clear hb hbox hg; obtain ⟨hcz73_0, hcz73_1, hfz73_0, hfz73_1⟩ := bc2_ BK243) | ((with_reducible refine gate_callee (f := 25) rfl ?_); refine gla_ (some 18) Try.func25 #[.agg #[.int .i64 1, .int .i64 3], .agg #[.int .i64 1, .int .i64 2]] ?_; (with_reducible refine (num_Simplest.calls k 1 3 1 2 t244 t245 t246 _ A2.out).mono ?_); rintro e w74 ⟨rfl, hb⟩; refine ⟨_, rfl, ?_⟩; replace BK243 := Aside0.mk (blk_below (g := gb243) (o := .cells #[.int .i64 t240, .int .i64 t241] 23 (0, 0)) (by refine bp_ (cs := #[.int .i64 t240, .int .i64 0]) ?_ 1; refine bp_ (cs := #[.int .i64 0, .int .i64 0]) ?_ 0; exact bk_ BK243) hb); replace HB := bws_ HB hb; (try clear hb); (try clear hb2); (try clear hk); (try clear hi)) | ((with_reducible refine gate_dst (N := 3) rfl ?_); refine box_event ?hg (N := 3) ?hd (cs := #[.int .i64 0, .int .i64 0]) (t := 23) ?hr ?_; (case hd => rfl); (case hg => rfl); (case hr => first | (go_simp; done) | (go_simp; rfl)); intro gb247 hg w75 hbox hb; have BK247 := Aside0.mk hbox; have GW247 := bwg_ HB hg; have GE247 := bwg_ HB hg; replace HB := bws_ HB hb; have NB243_247 := bkl_ BK243 hg; have NB247_243 := bkr_ BK243 hg; replace BK243 := bkb_ BK243 hb; clear hb hbox hg; have hnb76 := NB247_243.out; have hnc76 := NB243_247.out; obtain ⟨hcz77_0, hcz77_1, hfz77_0, hfz77_1⟩ := bc2_ BK247) | ((with_reducible refine gate_callee (f := 35) rfl ?_); refine gla_ (some 23) Try.func35 #[.agg #[.int .i64 (-1), .int .i64 8], .int .i64 2] ?_; (with_reducible refine (num_Decimal.calls k (-1) 8 2 t248 t249 _ A3.out).mono ?_); rintro e w78 ⟨rfl, hb⟩; refine ⟨_, rfl, ?_⟩; replace BK243 := Aside0.mk (blk_below (g := gb243) (o := .cells #[.int .i64 t240, .int .i64 t241] 23 (0, 0)) (by refine bf_ ?_ NB243_247; refine bf_ ?_ NB243_247; exact bk_ BK243) hb); replace BK247 := Aside0.mk (blk_below (g := gb247) (o := .cells #[.int .i64 t244, .int .i64 t245] 23 (0, 0)) (by refine bp_ (cs := #[.int .i64 t244, .int .i64 0]) ?_ 1; refine bp_ (cs := #[.int .i64 0, .int .i64 0]) ?_ 0; exact bk_ BK247) hb); replace HB := bws_ HB hb; (try clear hb); (try clear hb2); (try clear hk); (try clear hi)) | ((with_reducible refine gate_callee (f := 39) rfl ?_); refine gla_ (some 27) Try.func39 #[.string (⟨#[49, 46, 50, 53]⟩ : ByteArray)] ?_; (with_reducible refine (num_Parse.calls k (⟨#[49, 46, 50, 53]⟩ : ByteArray) t250 t251 t252 _ A4.out).mono ?_); rintro e w79 ⟨rfl, hb⟩; refine ⟨_, rfl, ?_⟩; replace BK243 := bkb_ BK243 hb; replace BK247 := bkb_ BK247 hb; replace HB := bws_ HB hb; (try clear hb); (try clear hb2); (try clear hk); (try clear hi)) | ((with_reducible refine gate_dst (N := 7) rfl ?_); refine box_event ?hg (N := 7) ?hd (cs := #[.int .i64 0, .int .i64 0]) (t := 23) ?hr ?_; (case hd => rfl); (case hg => rfl); (case hr => first | (go_simp; done) | (go_simp; rfl)); intro gb253 hg w80 hbox hb; have BK253 := Aside0.mk hbox; have GW253 := bwg_ HB hg; have GE253 := bwg_ HB hg; replace HB := bws_ HB hb; have NB243_253 := bkl_ BK243 hg; have NB253_243 := bkr_ BK243 hg; replace BK243 := bkb_ BK243 hb; have NB247_253 := bkl_ BK247 hg; have NB253_247 := bkr_ BK247 hg; replace BK247 := bkb_ BK247 hb; clear hb hbox hg; have hnb81 := NB253_243.out; have hnc81 := NB243_253.out; have hnb82 := NB253_247.out; have hnc82 := NB247_253.out; obtain ⟨hcz83_0, hcz83_1, hfz83_0, hfz83_1⟩ := bc2_ BK253))
         go_ret
         exact ⟨by first | rfl | (simp [*] <;> rfl), bw_ HB⟩
     · rw [if_neg c7] at H
       have c7b0 : (t249 == 0) = false := beq_eq_false_iff_ne.mpr c7
       have c7b1 : (t249 != 0) = true := bne_iff_ne.mpr c7
       obtain rfl := Option.some.inj H
       go_enter Try.func17, Try.ntmps17
       go_wp2_with (first | ((with_reducible refine gate_callee (f := 18) rfl ?_); refine gla_ (some 12) Try.func18 #[.agg #[.int .i64 1, .int .i64 2], .agg #[.int .i64 1, .int .i64 3]] ?_; (with_reducible refine (num_Add.calls k 1 2 1 3 t240 t241 t242 _ A1.out).mono ?_); rintro e w84 ⟨rfl, hb⟩; refine ⟨_, rfl, ?_⟩; replace HB := bws_ HB hb; (try clear hb); (try clear hb2); (try clear hk); (try clear hi)) | ((with_reducible refine gate_dst (N := 1) rfl ?_); refine box_event ?hg (N := 1) ?hd (cs := #[.int .i64 0, .int .i64 0]) (t := 23) ?hr ?_; (case hd => rfl); (case hg => rfl); (case hr => first | (go_simp; done) | (go_simp; rfl)); intro gb243 hg w85 hbox hb; have BK243 := Aside0.mk hbox; have GW243 := bwg_ HB hg; have GE243 := bwg_ HB hg; replace HB := bws_ HB hb; clear hb hbox hg; obtain ⟨hcz86_0, hcz86_1, hfz86_0, hfz86_1⟩ := bc2_ BK243) | ((with_reducible refine gate_callee (f := 25) rfl ?_); refine gla_ (some 18) Try.func25 #[.agg #[.int .i64 1, .int .i64 3], .agg #[.int .i64 1, .int .i64 2]] ?_; (with_reducible refine (num_Simplest.calls k 1 3 1 2 t244 t245 t246 _ A2.out).mono ?_); rintro e w87 ⟨rfl, hb⟩; refine ⟨_, rfl, ?_⟩; replace BK243 := Aside0.mk (blk_below (g := gb243) (o := .cells #[.int .i64 t240, .int .i64 t241] 23 (0, 0)) (by refine bp_ (cs := #[.int .i64 t240, .int .i64 0]) ?_ 1; refine bp_ (cs := #[.int .i64 0, .int .i64 0]) ?_ 0; exact bk_ BK243) hb); replace HB := bws_ HB hb; (try clear hb); (try clear hb2); (try clear hk); (try clear hi)) | ((with_reducible refine gate_dst (N := 3) rfl ?_); refine box_event ?hg (N := 3) ?hd (cs := #[.int .i64 0, .int .i64 0]) (t := 23) ?hr ?_; (case hd => rfl); (case hg => rfl); (case hr => first | (go_simp; done) | (go_simp; rfl)); intro gb247 hg w88 hbox hb; have BK247 := Aside0.mk hbox; have GW247 := bwg_ HB hg; have GE247 := bwg_ HB hg; replace HB := bws_ HB hb; have NB243_247 := bkl_ BK243 hg; have NB247_243 := bkr_ BK243 hg; replace BK243 := bkb_ BK243 hb; clear hb hbox hg; have hnb89 := NB247_243.out; have hnc89 := NB243_247.out; obtain ⟨hcz90_0, hcz90_1, hfz90_0, hfz90_1⟩ := bc2_ BK247) | ((with_reducible refine gate_callee (f := 35) rfl ?_); refine gla_ (some 23) Try.func35 #[.agg #[.int .i64 (-1), .int .i64 8], .int .i64 2] ?_; (with_reducible refine (num_Decimal.calls k (-1) 8 2 t248 t249 _ A3.out).mono ?_); rintro e w91 ⟨rfl, hb⟩; refine ⟨_, rfl, ?_⟩; replace BK243 := Aside0.mk (blk_below (g := gb243) (o := .cells #[.int .i64 t240, .int .i64 t241] 23 (0, 0)) (by refine bf_ ?_ NB243_247; refine bf_ ?_ NB243_247; exact bk_ BK243) hb); replace BK247 := Aside0.mk (blk_below (g := gb247) (o := .cells #[.int .i64 t244, .int .i64 t245] 23 (0, 0)) (by refine bp_ (cs := #[.int .i64 t244, .int .i64 0]) ?_ 1; refine bp_ (cs := #[.int .i64 0, .int .i64 0]) ?_ 0; exact bk_ BK247) hb); replace HB := bws_ HB hb; (try clear hb); (try clear hb2); (try clear hk); (try clear hi)) | ((with_reducible refine gate_callee (f := 39) rfl ?_); refine gla_ (some 27) Try.func39 #[.string (⟨#[49, 46, 50, 53]⟩ : ByteArray)] ?_; (with_reducible refine (num_Parse.calls k (⟨#[49, 46, 50, 53]⟩ : ByteArray) t250 t251 t252 _ A4.out).mono ?_); rintro e w92 ⟨rfl, hb⟩; refine ⟨_, rfl, ?_⟩; replace BK243 := bkb_ BK243 hb; replace BK247 := bkb_ BK247 hb; replace HB := bws_ HB hb; (try clear hb); (try clear hb2); (try clear hk); (try clear hi)) | ((with_reducible refine gate_dst (N := 7) rfl ?_); refine box_event ?hg (N := 7) ?hd (cs := #[.int .i64 0, .int .i64 0]) (t := 23) ?hr ?_; (case hd => rfl); (case hg => rfl); (case hr => first | (go_simp; done) | (go_simp; rfl)); intro gb253 hg w93 hbox hb; have BK253 := Aside0.mk hbox; have GW253 := bwg_ HB hg; have GE253 := bwg_ HB hg; replace HB := bws_ HB hb; have NB243_253 := bkl_ BK243 hg; have NB253_243 := bkr_ BK243 hg; replace BK243 := bkb_ BK243 hb; have NB247_253 := bkl_ BK247 hg; have NB253_247 := bkr_ BK247 hg; replace BK247 := bkb_ BK247 hb; clear hb hbox hg; have hnb94 := NB253_243.out; have hnc94 := NB243_253.out; have hnb95 := NB253_247.out; have hnc95 := NB247_253.out; obtain ⟨hcz96_0, hcz96_1, hfz96_0, hfz96_1⟩ := bc2_ BK253))
       go_ret
       exact ⟨by first | rfl | (simp [*] <;> rfl), bw_ HB⟩
   · rw [if_neg c6] at H
     have c6b0 : (t246 == 0) = false := beq_eq_false_iff_ne.mpr c6
     have c6b1 : (t246 != 0) = true := bne_iff_ne.mpr c6
     obtain rfl := Option.some.inj H
     go_enter Try.func17, Try.ntmps17
     go_wp2_with (first | ((with_reducible refine gate_callee (f := 18) rfl ?_); refine gla_ (some 12) Try.func18 #[.agg #[.int .i64 1, .int .i64 2], .agg #[.int .i64 1, .int .i64 3]] ?_; (with_reducible refine (num_Add.calls k 1 2 1 3 t240 t241 t242 _ A1.out).mono ?_); rintro e w97 ⟨rfl, hb⟩; refine ⟨_, rfl, ?_⟩; replace HB := bws_ HB hb; (try clear hb); (try clear hb2); (try clear hk); (try clear hi)) | ((with_reducible refine gate_dst (N := 1) rfl ?_); refine box_event ?hg (N := 1) ?hd (cs := #[.int .i64 0, .int .i64 0]) (t := 23) ?hr ?_; (case hd => rfl); (case hg => rfl); (case hr => first | (go_simp; done) | (go_simp; rfl)); intro gb243 hg w98 hbox hb; have BK243 := Aside0.mk hbox; have GW243 := bwg_ HB hg; have GE243 := bwg_ HB hg; replace HB := bws_ HB hb; clear hb hbox hg; obtain ⟨hcz99_0, hcz99_1, hfz99_0, hfz99_1⟩ := bc2_ BK243) | ((with_reducible refine gate_callee (f := 25) rfl ?_); refine gla_ (some 18) Try.func25 #[.agg #[.int .i64 1, .int .i64 3], .agg #[.int .i64 1, .int .i64 2]] ?_; (with_reducible refine (num_Simplest.calls k 1 3 1 2 t244 t245 t246 _ A2.out).mono ?_); rintro e w100 ⟨rfl, hb⟩; refine ⟨_, rfl, ?_⟩; replace BK243 := Aside0.mk (blk_below (g := gb243) (o := .cells #[.int .i64 t240, .int .i64 t241] 23 (0, 0)) (by refine bp_ (cs := #[.int .i64 t240, .int .i64 0]) ?_ 1; refine bp_ (cs := #[.int .i64 0, .int .i64 0]) ?_ 0; exact bk_ BK243) hb); replace HB := bws_ HB hb; (try clear hb); (try clear hb2); (try clear hk); (try clear hi)) | ((with_reducible refine gate_dst (N := 3) rfl ?_); refine box_event ?hg (N := 3) ?hd (cs := #[.int .i64 0, .int .i64 0]) (t := 23) ?hr ?_; (case hd => rfl); (case hg => rfl); (case hr => first | (go_simp; done) | (go_simp; rfl)); intro gb247 hg w101 hbox hb; have BK247 := Aside0.mk hbox; have GW247 := bwg_ HB hg; have GE247 := bwg_ HB hg; replace HB := bws_ HB hb; have NB243_247 := bkl_ BK243 hg; have NB247_243 := bkr_ BK243 hg; replace BK243 := bkb_ BK243 hb; clear hb hbox hg; have hnb102 := NB247_243.out; have hnc102 := NB243_247.out; obtain ⟨hcz103_0, hcz103_1, hfz103_0, hfz103_1⟩ := bc2_ BK247) | ((with_reducible refine gate_callee (f := 35) rfl ?_); refine gla_ (some 23) Try.func35 #[.agg #[.int .i64 (-1), .int .i64 8], .int .i64 2] ?_; (with_reducible refine (num_Decimal.calls k (-1) 8 2 t248 t249 _ A3.out).mono ?_); rintro e w104 ⟨rfl, hb⟩; refine ⟨_, rfl, ?_⟩; replace BK243 := Aside0.mk (blk_below (g := gb243) (o := .cells #[.int .i64 t240, .int .i64 t241] 23 (0, 0)) (by refine bf_ ?_ NB243_247; refine bf_ ?_ NB243_247; exact bk_ BK243) hb); replace BK247 := Aside0.mk (blk_below (g := gb247) (o := .cells #[.int .i64 t244, .int .i64 t245] 23 (0, 0)) (by refine bp_ (cs := #[.int .i64 t244, .int .i64 0]) ?_ 1; refine bp_ (cs := #[.int .i64 0, .int .i64 0]) ?_ 0; exact bk_ BK247) hb); replace HB := bws_ HB hb; (try clear hb); (try clear hb2); (try clear hk); (try clear hi)) | ((with_reducible refine gate_callee (f := 39) rfl ?_); refine gla_ (some 27) Try.func39 #[.string (⟨#[49, 46, 50, 53]⟩ : ByteArray)] ?_; (with_reducible refine (num_Parse.calls k (⟨#[49, 46, 50, 53]⟩ : ByteArray) t250 t251 t252 _ A4.out).mono ?_); rintro e w105 ⟨rfl, hb⟩; refine ⟨_, rfl, ?_⟩; replace BK243 := bkb_ BK243 hb; replace BK247 := bkb_ BK247 hb; replace HB := bws_ HB hb; (try clear hb); (try clear hb2); (try clear hk); (try clear hi)) | ((with_reducible refine gate_dst (N := 7) rfl ?_); refine box_event ?hg (N := 7) ?hd (cs := #[.int .i64 0, .int .i64 0]) (t := 23) ?hr ?_; (case hd => rfl); (case hg => rfl); (case hr => first | (go_simp; done) | (go_simp; rfl)); intro gb253 hg w106 hbox hb; have BK253 := Aside0.mk hbox; have GW253 := bwg_ HB hg; have GE253 := bwg_ HB hg; replace HB := bws_ HB hb; have NB243_253 := bkl_ BK243 hg; have NB253_243 := bkr_ BK243 hg; replace BK243 := bkb_ BK243 hb; have NB247_253 := bkl_ BK247 hg; have NB253_247 := bkr_ BK247 hg; replace BK247 := bkb_ BK247 hb; clear hb hbox hg; have hnb107 := NB253_243.out; have hnc107 := NB243_253.out; have hnb108 := NB253_247.out; have hnc108 := NB247_253.out; obtain ⟨hcz109_0, hcz109_1, hfz109_0, hfz109_1⟩ := bc2_ BK253))
     go_ret
     exact ⟨by first | rfl | (simp [*] <;> rfl), bw_ HB⟩
 · rw [if_neg c5] at H
   have c5b0 : (t242 == 0) = false := beq_eq_false_iff_ne.mpr c5
   have c5b1 : (t242 != 0) = true := bne_iff_ne.mpr c5
   obtain rfl := Option.some.inj H
   go_enter Try.func17, Try.ntmps17
   go_wp2_with (first | ((with_reducible refine gate_callee (f := 18) rfl ?_); refine gla_ (some 12) Try.func18 #[.agg #[.int .i64 1, .int .i64 2], .agg #[.int .i64 1, .int .i64 3]] ?_; (with_reducible refine (num_Add.calls k 1 2 1 3 t240 t241 t242 _ A1.out).mono ?_); rintro e w110 ⟨rfl, hb⟩; refine ⟨_, rfl, ?_⟩; replace HB := bws_ HB hb; (try clear hb); (try clear hb2); (try clear hk); (try clear hi)) | ((with_reducible refine gate_dst (N := 1) rfl ?_); refine box_event ?hg (N := 1) ?hd (cs := #[.int .i64 0, .int .i64 0]) (t := 23) ?hr ?_; (case hd => rfl); (case hg => rfl); (case hr => first | (go_simp; done) | (go_simp; rfl)); intro gb243 hg w111 hbox hb; have BK243 := Aside0.mk hbox; have GW243 := bwg_ HB hg; have GE243 := bwg_ HB hg; replace HB := bws_ HB hb; clear hb hbox hg; obtain ⟨hcz112_0, hcz112_1, hfz112_0, hfz112_1⟩ := bc2_ BK243) | ((with_reducible refine gate_callee (f := 25) rfl ?_); refine gla_ (some 18) Try.func25 #[.agg #[.int .i64 1, .int .i64 3], .agg #[.int .i64 1, .int .i64 2]] ?_; (with_reducible refine (num_Simplest.calls k 1 3 1 2 t244 t245 t246 _ A2.out).mono ?_); rintro e w113 ⟨rfl, hb⟩; refine ⟨_, rfl, ?_⟩; replace BK243 := Aside0.mk (blk_below (g := gb243) (o := .cells #[.int .i64 t240, .int .i64 t241] 23 (0, 0)) (by refine bp_ (cs := #[.int .i64 t240, .int .i64 0]) ?_ 1; refine bp_ (cs := #[.int .i64 0, .int .i64 0]) ?_ 0; exact bk_ BK243) hb); replace HB := bws_ HB hb; (try clear hb); (try clear hb2); (try clear hk); (try clear hi)) | ((with_reducible refine gate_dst (N := 3) rfl ?_); refine box_event ?hg (N := 3) ?hd (cs := #[.int .i64 0, .int .i64 0]) (t := 23) ?hr ?_; (case hd => rfl); (case hg => rfl); (case hr => first | (go_simp; done) | (go_simp; rfl)); intro gb247 hg w114 hbox hb; have BK247 := Aside0.mk hbox; have GW247 := bwg_ HB hg; have GE247 := bwg_ HB hg; replace HB := bws_ HB hb; have NB243_247 := bkl_ BK243 hg; have NB247_243 := bkr_ BK243 hg; replace BK243 := bkb_ BK243 hb; clear hb hbox hg; have hnb115 := NB247_243.out; have hnc115 := NB243_247.out; obtain ⟨hcz116_0, hcz116_1, hfz116_0, hfz116_1⟩ := bc2_ BK247) | ((with_reducible refine gate_callee (f := 35) rfl ?_); refine gla_ (some 23) Try.func35 #[.agg #[.int .i64 (-1), .int .i64 8], .int .i64 2] ?_; (with_reducible refine (num_Decimal.calls k (-1) 8 2 t248 t249 _ A3.out).mono ?_); rintro e w117 ⟨rfl, hb⟩; refine ⟨_, rfl, ?_⟩; replace BK243 := Aside0.mk (blk_below (g := gb243) (o := .cells #[.int .i64 t240, .int .i64 t241] 23 (0, 0)) (by refine bf_ ?_ NB243_247; refine bf_ ?_ NB243_247; exact bk_ BK243) hb); replace BK247 := Aside0.mk (blk_below (g := gb247) (o := .cells #[.int .i64 t244, .int .i64 t245] 23 (0, 0)) (by refine bp_ (cs := #[.int .i64 t244, .int .i64 0]) ?_ 1; refine bp_ (cs := #[.int .i64 0, .int .i64 0]) ?_ 0; exact bk_ BK247) hb); replace HB := bws_ HB hb; (try clear hb); (try clear hb2); (try clear hk); (try clear hi)) | ((with_reducible refine gate_callee (f := 39) rfl ?_); refine gla_ (some 27) Try.func39 #[.string (⟨#[49, 46, 50, 53]⟩ : ByteArray)] ?_; (with_reducible refine (num_Parse.calls k (⟨#[49, 46, 50, 53]⟩ : ByteArray) t250 t251 t252 _ A4.out).mono ?_); rintro e w118 ⟨rfl, hb⟩; refine ⟨_, rfl, ?_⟩; replace BK243 := bkb_ BK243 hb; replace BK247 := bkb_ BK247 hb; replace HB := bws_ HB hb; (try clear hb); (try clear hb2); (try clear hk); (try clear hi)) | ((with_reducible refine gate_dst (N := 7) rfl ?_); refine box_event ?hg (N := 7) ?hd (cs := #[.int .i64 0, .int .i64 0]) (t := 23) ?hr ?_; (case hd => rfl); (case hg => rfl); (case hr => first | (go_simp; done) | (go_simp; rfl)); intro gb253 hg w119 hbox hb; have BK253 := Aside0.mk hbox; have GW253 := bwg_ HB hg; have GE253 := bwg_ HB hg; replace HB := bws_ HB hb; have NB243_253 := bkl_ BK243 hg; have NB253_243 := bkr_ BK243 hg; replace BK243 := bkb_ BK243 hb; have NB247_253 := bkl_ BK247 hg; have NB253_247 := bkr_ BK247 hg; replace BK247 := bkb_ BK247 hb; clear hb hbox hg; have hnb120 := NB253_243.out; have hnc120 := NB243_253.out; have hnb121 := NB253_247.out; have hnc121 := NB247_253.out; obtain ⟨hcz122_0, hcz122_1, hfz122_0, hfz122_1⟩ := bc2_ BK253))
   go_ret
   exact ⟨by first | rfl | (simp [*] <;> rfl), bw_ HB⟩
/-! ### withyref01_Alike: function 62 -/
def withyref01_Alike.l0 : Nat → List Int → List Int → Int → Option (Bool)
  | 0, _, _, _ => none
  | k + 1, x0, x1, x5 => if x5 < (x0.length : Int) then (if 0 ≤ x5 then (if x5 < (x1.length : Int) then (if (rd x0 x5) = (rd x1 x5) then (withyref01_Alike.l0 k x0 x1 (wrap64 (x5 + 1))) else (some false)) else (none)) else (none)) else (some true)
def withyref01_Alike.f (k : Nat) (l0 : List Int) (l1 : List Int) : Option (Bool) := if (l0.length : Int) = (l1.length : Int) then (withyref01_Alike.l0 k l0 l1 0) else (some false)
theorem withyref01_Alike.mono_l : ∀ k, (∀ y0 y1 y2, LeO (withyref01_Alike.l0 k y0 y1 y2) (withyref01_Alike.l0 (k + 1) y0 y1 y2))
  | 0 => fun _ _ _ r h => by simp [withyref01_Alike.l0] at h
  | k + 1 => by
    have ih0 := withyref01_Alike.mono_l k
    · intro y0 y1 y2
      unfold withyref01_Alike.l0
      repeat' first
      | (with_reducible exact ih0 _ _ _)
      | (with_reducible exact LeO.refl _)
      | (with_reducible exact LeO.none _)
      | (with_reducible refine LeO.ite ?_ ?_)
      | (with_reducible refine LeO.bind ?_ (fun _ => ?_))
      | (with_reducible refine LeO.exc (fun _ => ?_) (fun _ => ?_))
      | exact ih0 _ _ _
      | exact LeO.none _
      | refine LeO.ite ?_ ?_
      | refine LeO.bind ?_ (fun _ => ?_)
theorem withyref01_Alike.mono : ∀ a0 a1 k, LeO (withyref01_Alike.f k a0 a1) (withyref01_Alike.f (k + 1) a0 a1) := by
  intro a0 a1 k
  have ih0 := withyref01_Alike.mono_l k
  unfold withyref01_Alike.f
  repeat' first
      | (with_reducible exact ih0 _ _ _)
      | (with_reducible exact LeO.refl _)
      | (with_reducible exact LeO.none _)
      | (with_reducible refine LeO.ite ?_ ?_)
      | (with_reducible refine LeO.bind ?_ (fun _ => ?_))
      | (with_reducible refine LeO.exc (fun _ => ?_) (fun _ => ?_))
      | exact ih0 _ _ _
      | exact LeO.none _
      | refine LeO.ite ?_ ?_
      | refine LeO.bind ?_ (fun _ => ?_)
set_option maxHeartbeats 8000000 in
set_option maxRecDepth 100000 in
theorem withyref01_Alike.calls (k : Nat) (A0 : Option Addr) (c0 : Nat) (l0 : List Int) (A1 : Option Addr) (c1 : Nat) (l1 : List Int) (r : Bool) (w : World) (hr0 : Kd.C (Kd.int .i64) w A0 l0.length l0) (hc0 : l0.length ≤ c0) (hr1 : Kd.C (Kd.int .i64) w A1 l1.length l1) (hc1 : l1.length ≤ c1) (h : withyref01_Alike.f k l0 l1 = some r) :
    Calls Try.prog 62 #[.slice A0 l0.length c0, .slice A1 l1.length c1] w fun e w' => e = .returned (.bool r) ∧ Drawn0 w w' := by
 have HR0 := Aside0.mk hr0
 have HC0 := Aside0.mk hc0
 clear hr0 hc0
 have HR1 := Aside0.mk hr1
 have HC1 := Aside0.mk hc1
 clear hr1 hc1
 have H : (if (l0.length : Int) = (l1.length : Int) then (withyref01_Alike.l0 k l0 l1 0) else (some false)) = some r := h
 clear h
 by_cases c3 : (l0.length : Int) = (l1.length : Int)
 · rw [if_pos c3] at H
   have c3b0 : ((l0.length : Int) == (l1.length : Int)) = true := beq_iff_eq.mpr c3
   have c3b1 : ((l0.length : Int) != (l1.length : Int)) = false := bne_eq_false_iff_eq.mpr c3
   have c3b2 : (l0.length == l1.length) = true := by first | simpa using c3 | (simp at c3 ⊢; omega)
   clear c3
   have H' := Aside0.mk H
   clear H
   go_enter Try.func62, Try.ntmps62
   go_wp2
   repeat (go_quiet (fail); try go_wp2)
   go_loopg [5] k (fun kq v5 w' => ∃ (x5_1 : Int), v5 = .int .i64 x5_1 ∧ Aside0 (withyref01_Alike.l0 kq l0 l1 x5_1 = some r) ∧ Aside0 (kq ≤ k) ∧ Drawn0 w w')
   case atStart => exact ⟨(0), (by first | rfl | (simp; done) | (simp [*]; done)), H', ⟨Nat.le_refl _⟩, by repeat (first | exact Drawn0.refl _ | apply Drawn0.step)⟩
   case round =>
    clear H'
    try clear c1
    try clear p2
    try clear c3
    try clear c3b0
    try clear c3b1
    try clear c3b2
    obtain ⟨x5_1, rfl, HA, HK1, ⟨m1, rfl⟩⟩ := hrel
    cases gk with
    | zero => exact absurd HA.out (by simp [withyref01_Alike.l0])
    | succ k1 =>
     have H := HA.out
     clear HA
     simp only [withyref01_Alike.l0] at H
     by_cases c4 : x5_1 < (l0.length : Int)
     · rw [if_pos c4] at H
       have c4b0 : decide (x5_1 < (l0.length : Int)) = true := decide_eq_true c4
       clear c4
       by_cases c5 : 0 ≤ x5_1
       · rw [if_pos c5] at H
         have c5b0 : decide (0 ≤ x5_1) = true := decide_eq_true c5
         clear c5
         by_cases c6 : x5_1 < (l1.length : Int)
         · rw [if_pos c6] at H
           have c6b0 : decide (x5_1 < (l1.length : Int)) = true := decide_eq_true c6
           clear c6
           by_cases c7 : (rd l0 x5_1) = (rd l1 x5_1)
           · rw [if_pos c7] at H
             have c7b0 : ((rd l0 x5_1) == (rd l1 x5_1)) = true := beq_iff_eq.mpr c7
             have c7b1 : ((rd l0 x5_1) != (rd l1 x5_1)) = false := bne_eq_false_iff_eq.mpr c7
             clear c7
             have H' := Aside0.mk H
             clear H
             have p928 : 0 ≤ (x5_1 : Int) := of_decide_eq_true (by first | (with_reducible assumption) | assumption)
             have q928 : x5_1 < (l0.length : Int) := of_decide_eq_true (by first | (with_reducible assumption) | assumption)
             obtain ⟨ad928, e928, hx928_0⟩ := Kd.at_int HR0.out x5_1 p928 q928
             cases e928
             replace p928 := eq_true p928
             replace q928 := eq_true q928
             have p929 : 0 ≤ (x5_1 : Int) := of_decide_eq_true (by first | (with_reducible assumption) | assumption)
             have q929 : x5_1 < (l1.length : Int) := of_decide_eq_true (by first | (with_reducible assumption) | assumption)
             obtain ⟨ad929, e929, hx929_0⟩ := Kd.at_int HR1.out x5_1 p929 q929
             cases e929
             replace p929 := eq_true p929
             replace q929 := eq_true q929
             go_wp2
             repeat (go_quiet (fail); try go_wp2)
             go_roundg k1
             case measure => have := HK1.out; omega
             case rel => exact ⟨(wrap64 (x5_1 + 1)), (by first | rfl | (simp; done) | (simp [*]; done)), H', ⟨by have := HK1.out; omega⟩, by repeat (first | exact Drawn0.refl _ | apply Drawn0.step)⟩
           · rw [if_neg c7] at H
             have c7b0 : ((rd l0 x5_1) == (rd l1 x5_1)) = false := beq_eq_false_iff_ne.mpr c7
             have c7b1 : ((rd l0 x5_1) != (rd l1 x5_1)) = true := bne_iff_ne.mpr c7
             obtain rfl := Option.some.inj H
             have p928 : 0 ≤ (x5_1 : Int) := of_decide_eq_true (by first | (with_reducible assumption) | assumption)
             have q928 : x5_1 < (l0.length : Int) := of_decide_eq_true (by first | (with_reducible assumption) | assumption)
             obtain ⟨ad928, e928, hx928_0⟩ := Kd.at_int HR0.out x5_1 p928 q928
             cases e928
             replace p928 := eq_true p928
             replace q928 := eq_true q928
             have p929 : 0 ≤ (x5_1 : Int) := of_decide_eq_true (by first | (with_reducible assumption) | assumption)
             have q929 : x5_1 < (l1.length : Int) := of_decide_eq_true (by first | (with_reducible assumption) | assumption)
             obtain ⟨ad929, e929, hx929_0⟩ := Kd.at_int HR1.out x5_1 p929 q929
             cases e929
             replace p929 := eq_true p929
             replace q929 := eq_true q929
             go_wp2
             repeat (go_quiet (fail); try go_wp2)
             go_ret
             exact ⟨by first | rfl | (simp; done) | (simp [*]; done), by repeat (first | exact Drawn0.refl _ | apply Drawn0.step)⟩
         · rw [if_neg c6] at H
           exact absurd H (by simp)
       · rw [if_neg c5] at H
         exact absurd H (by simp)
     · rw [if_neg c4] at H
       have c4b0 : decide (x5_1 < (l0.length : Int)) = false := decide_eq_false c4
       clear c4
       obtain rfl := Option.some.inj H
       go_wp2
       repeat (go_quiet (fail); try go_wp2)
       go_ret
       exact ⟨by first | rfl | (simp; done) | (simp [*]; done), by repeat (first | exact Drawn0.refl _ | apply Drawn0.step)⟩
 · rw [if_neg c3] at H
   have c3b0 : ((l0.length : Int) == (l1.length : Int)) = false := beq_eq_false_iff_ne.mpr c3
   have c3b1 : ((l0.length : Int) != (l1.length : Int)) = true := bne_iff_ne.mpr c3
   have c3b2 : (l0.length == l1.length) = false := by first | simpa using c3 | (simp at c3 ⊢; omega)
   obtain rfl := Option.some.inj H
   go_enter Try.func62, Try.ntmps62
   go_wp2
   repeat (go_quiet (fail); try go_wp2)
   go_ret
   exact ⟨by first | rfl | (simp; done) | (simp [*]; done), by repeat (first | exact Drawn0.refl _ | apply Drawn0.step)⟩
/-! ### withylaw01_NumNears: function 15 -/
mutual
def withylaw01_NumNears.j0 : Nat → Int → List Int → Bool → Int → Int → Option (Bool)
  | 0, _, _, _, _, _ => none
  | k + 1, x2, x3, x40, x1003000, x1003001 => if x40 = true then (some false) else ((num_Near.f k x1003000 x1003001 x2).bind fun bt1013 => ((withyref01_Near.f k x1003000 x1003001 x2).bind fun bt1016 => (if bt1013.2.2 = bt1016.2.2 then (withylaw01_NumNears.j1 k x3 (!(bt1013.1 == bt1016.1) || (!(bt1013.2.1 == bt1016.2.1))) x1003000 x1003001) else (withylaw01_NumNears.j1 k x3 true x1003000 x1003001))))
def withylaw01_NumNears.j1 : Nat → List Int → Bool → Int → Int → Option (Bool)
  | 0, _, _, _, _ => none
  | k + 1, x3, x60, x1003000, x1003001 => if x60 = true then (some false) else ((num_Terms.f k x1003000 x1003001).bind fun bt1019 => ((withyref01_Terms.f k x1003000 x1003001).bind fun bt1023 => ((num_Of.f k x3).bind fun bt1027 => ((withyref01_Of.f k x3).bind fun bt1030 => (if bt1027.2.2 = bt1030.2.2 then (if (bt1027.1 == bt1030.1 && (bt1027.2.1 == bt1030.2.1)) = true then (if bt1019.2 = bt1023.2 then ((withyref01_Alike.f k bt1019.1 bt1023.1).bind fun t1033 => (if t1033 = true then ((withylaw01_summed.f k).bind fun t1034 => (some t1034)) else (some false))) else (some false)) else (some false)) else (some false))))))
end
def withylaw01_NumNears.f (k : Nat) (a0_0 : Int) (a0_1 : Int) (a1_0 : Int) (a1_1 : Int) (a2 : Int) (l3 : List Int) : Option (Bool) := if (l3.length : Int) > 60 then ((withylaw01_summed.f k).bind fun t1004 => (some t1004)) else ((num_Simplest.f k a0_0 a0_1 a1_0 a1_1).bind fun bt1005 => ((withyref01_Simplest.f k a0_0 a0_1 a1_0 a1_1).bind fun bt1009 => (if bt1005.2.2 = bt1009.2.2 then (withylaw01_NumNears.j0 k a2 l3 (!(bt1005.1 == bt1009.1) || (!(bt1005.2.1 == bt1009.2.1))) a0_0 a0_1) else (withylaw01_NumNears.j0 k a2 l3 true a0_0 a0_1))))
theorem withylaw01_NumNears.mono_l : ∀ k, (∀ y0 y1 y2 y3 y4, LeO (withylaw01_NumNears.j0 k y0 y1 y2 y3 y4) (withylaw01_NumNears.j0 (k + 1) y0 y1 y2 y3 y4)) ∧ (∀ y0 y1 y2 y3, LeO (withylaw01_NumNears.j1 k y0 y1 y2 y3) (withylaw01_NumNears.j1 (k + 1) y0 y1 y2 y3))
  | 0 => ⟨fun _ _ _ _ _ r h => by simp [withylaw01_NumNears.j0] at h, fun _ _ _ _ r h => by simp [withylaw01_NumNears.j1] at h⟩
  | k + 1 => by
    obtain ⟨ih0, ih1⟩ := withylaw01_NumNears.mono_l k
    refine ⟨?_, ?_⟩
    · intro y0 y1 y2 y3 y4
      unfold withylaw01_NumNears.j0
      repeat' first
      | (with_reducible exact ih0 _ _ _ _ _)
      | (with_reducible exact ih1 _ _ _ _)
      | (with_reducible exact num_Near.mono _ _ _ _)
      | (with_reducible exact num_Of.mono _ _)
      | (with_reducible exact num_Simplest.mono _ _ _ _ _)
      | (with_reducible exact num_Terms.mono _ _ _)
      | (with_reducible exact withylaw01_summed.mono _)
      | (with_reducible exact withyref01_Alike.mono _ _ _)
      | (with_reducible exact withyref01_Near.mono _ _ _ _)
      | (with_reducible exact withyref01_Of.mono _ _)
      | (with_reducible exact withyref01_Simplest.mono _ _ _ _ _)
      | (with_reducible exact withyref01_Terms.mono _ _ _)
      | (with_reducible exact LeO.refl _)
      | (with_reducible exact LeO.none _)
      | (with_reducible refine LeO.ite ?_ ?_)
      | (with_reducible refine LeO.bind ?_ (fun _ => ?_))
      | (with_reducible refine LeO.exc (fun _ => ?_) (fun _ => ?_))
      | exact ih0 _ _ _ _ _
      | exact ih1 _ _ _ _
      | exact num_Near.mono _ _ _ _
      | exact num_Of.mono _ _
      | exact num_Simplest.mono _ _ _ _ _
      | exact num_Terms.mono _ _ _
      | exact withylaw01_summed.mono _
      | exact withyref01_Alike.mono _ _ _
      | exact withyref01_Near.mono _ _ _ _
      | exact withyref01_Of.mono _ _
      | exact withyref01_Simplest.mono _ _ _ _ _
      | exact withyref01_Terms.mono _ _ _
      | exact LeO.none _
      | refine LeO.ite ?_ ?_
      | refine LeO.bind ?_ (fun _ => ?_)
    · intro y0 y1 y2 y3
      unfold withylaw01_NumNears.j1
      repeat' first
      | (with_reducible exact ih0 _ _ _ _ _)
      | (with_reducible exact ih1 _ _ _ _)
      | (with_reducible exact num_Near.mono _ _ _ _)
      | (with_reducible exact num_Of.mono _ _)
      | (with_reducible exact num_Simplest.mono _ _ _ _ _)
      | (with_reducible exact num_Terms.mono _ _ _)
      | (with_reducible exact withylaw01_summed.mono _)
      | (with_reducible exact withyref01_Alike.mono _ _ _)
      | (with_reducible exact withyref01_Near.mono _ _ _ _)
      | (with_reducible exact withyref01_Of.mono _ _)
      | (with_reducible exact withyref01_Simplest.mono _ _ _ _ _)
      | (with_reducible exact withyref01_Terms.mono _ _ _)
      | (with_reducible exact LeO.refl _)
      | (with_reducible exact LeO.none _)
      | (with_reducible refine LeO.ite ?_ ?_)
      | (with_reducible refine LeO.bind ?_ (fun _ => ?_))
      | (with_reducible refine LeO.exc (fun _ => ?_) (fun _ => ?_))
      | exact ih0 _ _ _ _ _
      | exact ih1 _ _ _ _
      | exact num_Near.mono _ _ _ _
      | exact num_Of.mono _ _
      | exact num_Simplest.mono _ _ _ _ _
      | exact num_Terms.mono _ _ _
      | exact withylaw01_summed.mono _
      | exact withyref01_Alike.mono _ _ _
      | exact withyref01_Near.mono _ _ _ _
      | exact withyref01_Of.mono _ _
      | exact withyref01_Simplest.mono _ _ _ _ _
      | exact withyref01_Terms.mono _ _ _
      | exact LeO.none _
      | refine LeO.ite ?_ ?_
      | refine LeO.bind ?_ (fun _ => ?_)
theorem withylaw01_NumNears.mono : ∀ a0 a1 a2 a3 a4 a5 k, LeO (withylaw01_NumNears.f k a0 a1 a2 a3 a4 a5) (withylaw01_NumNears.f (k + 1) a0 a1 a2 a3 a4 a5) := by
  intro a0 a1 a2 a3 a4 a5 k
  obtain ⟨ih0, ih1⟩ := withylaw01_NumNears.mono_l k
  unfold withylaw01_NumNears.f
  repeat' first
      | (with_reducible exact ih0 _ _ _ _ _)
      | (with_reducible exact ih1 _ _ _ _)
      | (with_reducible exact num_Near.mono _ _ _ _)
      | (with_reducible exact num_Of.mono _ _)
      | (with_reducible exact num_Simplest.mono _ _ _ _ _)
      | (with_reducible exact num_Terms.mono _ _ _)
      | (with_reducible exact withylaw01_summed.mono _)
      | (with_reducible exact withyref01_Alike.mono _ _ _)
      | (with_reducible exact withyref01_Near.mono _ _ _ _)
      | (with_reducible exact withyref01_Of.mono _ _)
      | (with_reducible exact withyref01_Simplest.mono _ _ _ _ _)
      | (with_reducible exact withyref01_Terms.mono _ _ _)
      | (with_reducible exact LeO.refl _)
      | (with_reducible exact LeO.none _)
      | (with_reducible refine LeO.ite ?_ ?_)
      | (with_reducible refine LeO.bind ?_ (fun _ => ?_))
      | (with_reducible refine LeO.exc (fun _ => ?_) (fun _ => ?_))
      | exact ih0 _ _ _ _ _
      | exact ih1 _ _ _ _
      | exact num_Near.mono _ _ _ _
      | exact num_Of.mono _ _
      | exact num_Simplest.mono _ _ _ _ _
      | exact num_Terms.mono _ _ _
      | exact withylaw01_summed.mono _
      | exact withyref01_Alike.mono _ _ _
      | exact withyref01_Near.mono _ _ _ _
      | exact withyref01_Of.mono _ _
      | exact withyref01_Simplest.mono _ _ _ _ _
      | exact withyref01_Terms.mono _ _ _
      | exact LeO.none _
      | refine LeO.ite ?_ ?_
      | refine LeO.bind ?_ (fun _ => ?_)
set_option maxHeartbeats 8000000 in
set_option maxRecDepth 100000 in
theorem withylaw01_NumNears.calls (k : Nat) (a0_0 : Int) (a0_1 : Int) (a1_0 : Int) (a1_1 : Int) (a2 : Int) (A3 : Option Addr) (c3 : Nat) (l3 : List Int) (r : Bool) (w : World) (hr3 : Kd.C (Kd.int .i64) w A3 l3.length l3) (hc3 : l3.length ≤ c3) (h : withylaw01_NumNears.f k a0_0 a0_1 a1_0 a1_1 a2 l3 = some r) :
    Calls Try.prog 15 #[.agg #[.int .i64 a0_0, .int .i64 a0_1], .agg #[.int .i64 a1_0, .int .i64 a1_1], .int .i64 a2, .slice A3 l3.length c3] w fun e w' => e = .returned (.bool r) ∧ Below w.heap.size w w' := by
 have hu23 := Try.underlying23
 have HR3 := Aside0.mk hr3
 have HC3 := Aside0.mk hc3
 clear hr3 hc3
 have HB := Aside0.mk (Below.refl w.heap.size w)
 have H : (if (l3.length : Int) > 60 then ((withylaw01_summed.f k).bind fun t1004 => (some t1004)) else ((num_Simplest.f k a0_0 a0_1 a1_0 a1_1).bind fun bt1005 => ((withyref01_Simplest.f k a0_0 a0_1 a1_0 a1_1).bind fun bt1009 => (if bt1005.2.2 = bt1009.2.2 then (withylaw01_NumNears.j0 k a2 l3 (!(bt1005.1 == bt1009.1) || (!(bt1005.2.1 == bt1009.2.1))) a0_0 a0_1) else (withylaw01_NumNears.j0 k a2 l3 true a0_0 a0_1))))) = some r := h
 clear h
 by_cases c5 : (l3.length : Int) > 60
 · rw [if_pos c5] at H
   have c5b0 : decide (60 < (l3.length : Int)) = true := decide_eq_true c5
   have c5b1 : decide (60 < l3.length) = true := decide_eq_true (by omega)
   clear c5
   replace H := Option.bind_eq_some_iff.mp H
   obtain ⟨t1004, A60, H⟩ := H
   replace H : (some t1004) = some r := H
   have A6 := Aside0.mk A60
   clear A60
   obtain rfl := Option.some.inj H
   as_aux_lemma =>
    go_enter Try.func15, Try.ntmps15
    go_wp2_with (first | ((with_reducible refine gate_dst (N := 4) rfl ?_); refine box_event ?hg (N := 4) ?hd (cs := #[.int .i64 a0_0, .int .i64 a0_1]) (t := 23) ?hr ?_; (case hd => rfl); (case hg => rfl); (case hr => first | (go_simp; done) | (go_simp; rfl)); intro gb1002 hg w7 hbox hb; have BK1002 := Aside0.mk hbox; have GW1002 := bwg_ HB hg; have GE1002 := bwg_ HB hg; replace HB := bws_ HB hb; clear hb hbox hg) | ((with_reducible refine gate_dst (N := 5) rfl ?_); refine box_event ?hg (N := 5) ?hd (cs := #[.int .i64 a1_0, .int .i64 a1_1]) (t := 23) ?hr ?_; (case hd => rfl); (case hg => rfl); (case hr => first | (go_simp; done) | (go_simp; rfl)); intro gb1003 hg w8 hbox hb; have BK1003 := Aside0.mk hbox; have GW1003 := bwg_ HB hg; have GE1003 := bwg_ HB hg; replace HB := bws_ HB hb; have NB1002_1003 := bkl_ BK1002 hg; have NB1003_1002 := bkr_ BK1002 hg; replace BK1002 := bkb_ BK1002 hb; clear hb hbox hg) | ((with_reducible refine gate_callee (f := 17) rfl ?_); refine gla_ (some 20) Try.func17 #[] ?_; (with_reducible refine (withylaw01_summed.calls k  t1004 _ A6.out).mono ?_); rintro e w9 ⟨rfl, hb⟩; refine ⟨_, rfl, ?_⟩; replace BK1002 := bkb_ BK1002 hb; replace BK1003 := bkb_ BK1003 hb; replace HB := bws_ HB hb; (try clear hb); (try clear hb2); (try clear hk); (try clear hi)))
    go_ret
    exact ⟨by first | rfl | (simp [*] <;> rfl), bw_ HB⟩
 · rw [if_neg c5] at H
   have c5b0 : decide (60 < (l3.length : Int)) = false := decide_eq_false c5
   have c5b1 : decide (60 < l3.length) = false := decide_eq_false (by omega)
   clear c5
   replace H := Option.bind_eq_some_iff.mp H
   obtain ⟨⟨t1005, t1006, t1007⟩, A100, H⟩ := H
   replace H : ((withyref01_Simplest.f k a0_0 a0_1 a1_0 a1_1).bind fun bt1009 => (if t1007 = bt1009.2.2 then (withylaw01_NumNears.j0 k a2 l3 (!(t1005 == bt1009.1) || (!(t1006 == bt1009.2.1))) a0_0 a0_1) else (withylaw01_NumNears.j0 k a2 l3 true a0_0 a0_1))) = some r := H
   have A10 := Aside0.mk A100
   clear A100
   replace H := Option.bind_eq_some_iff.mp H
   obtain ⟨⟨t1009, t1010, t1011⟩, A110, H⟩ := H
   replace H : (if t1007 = t1011 then (withylaw01_NumNears.j0 k a2 l3 (!(t1005 == t1009) || (!(t1006 == t1010))) a0_0 a0_1) else (withylaw01_NumNears.j0 k a2 l3 true a0_0 a0_1)) = some r := H
   have A11 := Aside0.mk A110
   clear A110
   have HC12 := Aside0.mk H
   clear H
   as_aux_lemma =>
    go_enter Try.func15, Try.ntmps15
    go_upto_region 5 with (first | ((with_reducible refine gate_dst (N := 4) rfl ?_); refine box_event ?hg (N := 4) ?hd (cs := #[.int .i64 a0_0, .int .i64 a0_1]) (t := 23) ?hr ?_; (case hd => rfl); (case hg => rfl); (case hr => first | (go_simp; done) | (go_simp; rfl)); intro gb1002 hg w13 hbox hb; have BK1002 := Aside0.mk hbox; have GW1002 := bwg_ HB hg; have GE1002 := bwg_ HB hg; replace HB := bws_ HB hb; clear hb hbox hg) | ((with_reducible refine gate_dst (N := 5) rfl ?_); refine box_event ?hg (N := 5) ?hd (cs := #[.int .i64 a1_0, .int .i64 a1_1]) (t := 23) ?hr ?_; (case hd => rfl); (case hg => rfl); (case hr => first | (go_simp; done) | (go_simp; rfl)); intro gb1003 hg w14 hbox hb; have BK1003 := Aside0.mk hbox; have GW1003 := bwg_ HB hg; have GE1003 := bwg_ HB hg; replace HB := bws_ HB hb; have NB1002_1003 := bkl_ BK1002 hg; have NB1003_1002 := bkr_ BK1002 hg; replace BK1002 := bkb_ BK1002 hb; clear hb hbox hg; have hnb15 := NB1002_1003.out; have hnc15 := NB1003_1002.out; obtain ⟨hcz16_0, hcz16_1, hfz16_0, hfz16_1⟩ := bc2_ BK1002; obtain ⟨hcz17_0, hcz17_1, hfz17_0, hfz17_1⟩ := bc2_ BK1003) | ((with_reducible refine gate_callee (f := 25) rfl ?_); refine gla_ (some 24) Try.func25 #[.agg #[.int .i64 a0_0, .int .i64 a0_1], .agg #[.int .i64 a1_0, .int .i64 a1_1]] ?_; (with_reducible refine (num_Simplest.calls k a0_0 a0_1 a1_0 a1_1 t1005 t1006 t1007 _ A10.out).mono ?_); rintro e w18 ⟨rfl, hb⟩; refine ⟨_, rfl, ?_⟩; replace BK1002 := bkb_ BK1002 hb; replace BK1003 := bkb_ BK1003 hb; replace HB := bws_ HB hb; (try clear hb); (try clear hb2); (try clear hk); (try clear hi)) | ((with_reducible refine gate_dst (N := 9) rfl ?_); refine box_event ?hg (N := 9) ?hd (cs := #[.int .i64 0, .int .i64 0]) (t := 23) ?hr ?_; (case hd => rfl); (case hg => rfl); (case hr => first | (go_simp; done) | (go_simp; rfl)); intro gb1008 hg w19 hbox hb; have BK1008 := Aside0.mk hbox; have GW1008 := bwg_ HB hg; have GE1008 := bwg_ HB hg; replace HB := bws_ HB hb; have NB1002_1008 := bkl_ BK1002 hg; have NB1008_1002 := bkr_ BK1002 hg; replace BK1002 := bkb_ BK1002 hb; have NB1003_1008 := bkl_ BK1003 hg; have NB1008_1003 := bkr_ BK1003 hg; replace BK1003 := bkb_ BK1003 hb; clear hb hbox hg; have hnb20 := NB1008_1002.out; have hnc20 := NB1002_1008.out; have hnb21 := NB1008_1003.out; have hnc21 := NB1003_1008.out; obtain ⟨hcz22_0, hcz22_1, hfz22_0, hfz22_1⟩ := bc2_ BK1008; obtain ⟨hcz23_0, hcz23_1, hfz23_0, hfz23_1⟩ := bc2_ BK1002; obtain ⟨hcz24_0, hcz24_1, hfz24_0, hfz24_1⟩ := bc2_ BK1003) | ((with_reducible refine gate_callee (f := 63) rfl ?_); refine gla_ (some 30) Try.func63 #[.agg #[.int .i64 a0_0, .int .i64 a0_1], .agg #[.int .i64 a1_0, .int .i64 a1_1]] ?_; (with_reducible refine (withyref01_Simplest.calls k a0_0 a0_1 a1_0 a1_1 t1009 t1010 t1011 _ A11.out).mono ?_); rintro e w25 ⟨rfl, hb⟩; refine ⟨_, rfl, ?_⟩; replace BK1002 := Aside0.mk (blk_below (g := gb1002) (o := .cells #[.int .i64 a0_0, .int .i64 a0_1] 23 (0, 0)) (by refine bf_ ?_ NB1002_1008; refine bf_ ?_ NB1002_1008; exact bk_ BK1002) hb); replace BK1003 := Aside0.mk (blk_below (g := gb1003) (o := .cells #[.int .i64 a1_0, .int .i64 a1_1] 23 (0, 0)) (by refine bf_ ?_ NB1003_1008; refine bf_ ?_ NB1003_1008; exact bk_ BK1003) hb); replace BK1008 := Aside0.mk (blk_below (g := gb1008) (o := .cells #[.int .i64 t1005, .int .i64 t1006] 23 (0, 0)) (by refine bp_ (cs := #[.int .i64 t1005, .int .i64 0]) ?_ 1; refine bp_ (cs := #[.int .i64 0, .int .i64 0]) ?_ 0; exact bk_ BK1008) hb); replace HB := bws_ HB hb; (try clear hb); (try clear hb2); (try clear hk); (try clear hi)) | ((with_reducible refine gate_dst (N := 11) rfl ?_); refine box_event ?hg (N := 11) ?hd (cs := #[.int .i64 0, .int .i64 0]) (t := 23) ?hr ?_; (case hd => rfl); (case hg => rfl); (case hr => first | (go_simp; done) | (go_simp; rfl)); intro gb1012 hg w26 hbox hb; have BK1012 := Aside0.mk hbox; have GW1012 := bwg_ HB hg; have GE1012 := bwg_ HB hg; replace HB := bws_ HB hb; have NB1002_1012 := bkl_ BK1002 hg; have NB1012_1002 := bkr_ BK1002 hg; replace BK1002 := bkb_ BK1002 hb; have NB1003_1012 := bkl_ BK1003 hg; have NB1012_1003 := bkr_ BK1003 hg; replace BK1003 := bkb_ BK1003 hb; have NB1008_1012 := bkl_ BK1008 hg; have NB1012_1008 := bkr_ BK1008 hg; replace BK1008 := bkb_ BK1008 hb; clear hb hbox hg; have hnb27 := NB1012_1002.out; have hnc27 := NB1002_1012.out; have hnb28 := NB1012_1003.out; have hnc28 := NB1003_1012.out; have hnb29 := NB1012_1008.out; have hnc29 := NB1008_1012.out; obtain ⟨hcz30_0, hcz30_1, hfz30_0, hfz30_1⟩ := bc2_ BK1012))
    (try simp only [Act.put, List.setIfInBounds_toArray, List.set_cons_zero, List.set_cons_succ])
    go_cut [40] (fun v40 wc => ∃ (kq : Nat) (x40_11 : Bool), v40 = .bool x40_11 ∧ Aside0 (withylaw01_NumNears.j0 kq a2 l3 x40_11 a0_0 a0_1 = some r) ∧ Aside0 (kq ≤ k) ∧ Aside0 (wc.heap[gb1002]? = some (.cells #[.int .i64 a0_0, .int .i64 a0_1] 23 (0, 0))) ∧ Aside0 (wc.heap[gb1003]? = some (.cells #[.int .i64 a1_0, .int .i64 a1_1] 23 (0, 0))) ∧ Aside0 (wc.heap[gb1008]? = some (.cells #[.int .i64 t1005, .int .i64 t1006] 23 (0, 0))) ∧ Aside0 (wc.heap[gb1012]? = some (.cells #[.int .i64 t1009, .int .i64 t1010] 23 (0, 0))) ∧ Aside0 (Below w.heap.size w wc))
    case first =>
     as_aux_lemma =>
      have H := HC12.out
      clear HC12
      by_cases c31 : t1007 = t1011
      · rw [if_pos c31] at H
        have c31b0 : (t1007 == t1011) = true := beq_iff_eq.mpr c31
        have c31b1 : (t1007 != t1011) = false := bne_eq_false_iff_eq.mpr c31
        clear c31
        (first | rw [c31b0] | (simp only [i64_w, i32_w]; rw [c31b0]) | skip)
        have H' := Aside0.mk H
        clear H
        have hnb32 := NB1008_1002.out
        have hnc32 := NB1002_1008.out
        have hnb33 := NB1008_1003.out
        have hnc33 := NB1003_1008.out
        have hnb34 := NB1008_1012.out
        have hnc34 := NB1012_1008.out
        obtain ⟨hcz35_0, hcz35_1, hfz35_0, hfz35_1⟩ := bc2_ BK1008
        have hnb36 := NB1012_1002.out
        have hnc36 := NB1002_1012.out
        have hnb37 := NB1012_1003.out
        have hnc37 := NB1003_1012.out
        obtain ⟨hcz38_0, hcz38_1, hfz38_0, hfz38_1⟩ := bc2_ BK1012
        go_wp2
        go_meet
        case rel => exact ⟨_, ((!(t1005 == t1009) || (!(t1006 == t1010)))), (by first | rfl | (simp; done) | (simp [*]; done)), H', ⟨by first | omega | exact Nat.le_refl _⟩, ⟨by refine bf_ ?_ NB1002_1012; refine bf_ ?_ NB1002_1012; exact bk_ BK1002⟩, ⟨by refine bf_ ?_ NB1003_1012; refine bf_ ?_ NB1003_1012; exact bk_ BK1003⟩, ⟨by refine bf_ ?_ NB1008_1012; refine bf_ ?_ NB1008_1012; exact bk_ BK1008⟩, ⟨by refine bp_ (cs := #[.int .i64 t1009, .int .i64 0]) ?_ 1; refine bp_ (cs := #[.int .i64 0, .int .i64 0]) ?_ 0; exact bk_ BK1012⟩, ⟨bw_ HB⟩⟩
      · rw [if_neg c31] at H
        have c31b0 : (t1007 == t1011) = false := beq_eq_false_iff_ne.mpr c31
        have c31b1 : (t1007 != t1011) = true := bne_iff_ne.mpr c31
        (first | rw [c31b0] | (simp only [i64_w, i32_w]; rw [c31b0]) | skip)
        have H' := Aside0.mk H
        clear H
        go_wp2
        go_meet
        case rel => exact ⟨_, (true), (by first | rfl | (simp; done) | (simp [*]; done)), H', ⟨by first | omega | exact Nat.le_refl _⟩, ⟨by refine bf_ ?_ NB1002_1012; refine bf_ ?_ NB1002_1012; exact bk_ BK1002⟩, ⟨by refine bf_ ?_ NB1003_1012; refine bf_ ?_ NB1003_1012; exact bk_ BK1003⟩, ⟨by refine bf_ ?_ NB1008_1012; refine bf_ ?_ NB1008_1012; exact bk_ BK1008⟩, ⟨by refine bp_ (cs := #[.int .i64 t1009, .int .i64 0]) ?_ 1; refine bp_ (cs := #[.int .i64 0, .int .i64 0]) ?_ 0; exact bk_ BK1012⟩, ⟨bw_ HB⟩⟩
    case rest =>
     as_aux_lemma =>
      clear HC12
      try clear c1
      try clear c2
      try clear p2
      try clear c3
      try clear c5
      try clear c5b0
      try clear c5b1
      try clear c6
      try clear c15
      try clear c17
      try clear c20
      try clear c21
      try clear c25
      try clear c27
      try clear c28
      try clear c29
      try clear c31
      try clear c31b0
      try clear c31b1
      try clear c32
      try clear c33
      try clear c34
      try clear c36
      try clear c37
      try clear hcz16_0
      try clear hcz16_1
      try clear hcz17_0
      try clear hcz17_1
      try clear hcz22_0
      try clear hcz22_1
      try clear hcz23_0
      try clear hcz23_1
      try clear hcz24_0
      try clear hcz24_1
      try clear hcz30_0
      try clear hcz30_1
      try clear hcz35_0
      try clear hcz35_1
      try clear hcz38_0
      try clear hcz38_1
      try clear hfz16_0
      try clear hfz16_1
      try clear hfz17_0
      try clear hfz17_1
      try clear hfz22_0
      try clear hfz22_1
      try clear hfz23_0
      try clear hfz23_1
      try clear hfz24_0
      try clear hfz24_1
      try clear hfz30_0
      try clear hfz30_1
      try clear hfz35_0
      try clear hfz35_1
      try clear hfz38_0
      try clear hfz38_1
      obtain ⟨kq, x40_11, rfl, HA, HJ11, BK1002, BK1003, BK1008, BK1012, HB⟩ := hcut
      cases kq with
      | zero => exact absurd HA.out (by simp [withylaw01_NumNears.j0])
      | succ kj11 =>
       have H := HA.out
       clear HA
       simp only [withylaw01_NumNears.j0] at H
       by_cases c39 : x40_11 = true
       · subst c39
         have H1 : (some false) = some r := by rw [if_pos rfl] at H; exact H
         clear H
         have H := H1
         clear H1
         obtain rfl := Option.some.inj H
         go_wp2
         go_ret
         exact ⟨by first | rfl | (simp [*] <;> rfl), bw_ HB⟩
       · replace c39 := Bool.eq_false_iff.mpr c39
         subst c39
         have H1 : ((num_Near.f kj11 a0_0 a0_1 a2).bind fun bt1013 => ((withyref01_Near.f kj11 a0_0 a0_1 a2).bind fun bt1016 => (if bt1013.2.2 = bt1016.2.2 then (withylaw01_NumNears.j1 kj11 l3 (!(bt1013.1 == bt1016.1) || (!(bt1013.2.1 == bt1016.2.1))) a0_0 a0_1) else (withylaw01_NumNears.j1 kj11 l3 true a0_0 a0_1)))) = some r := by rw [if_neg (show ¬ (false = true) by decide)] at H; exact H
         clear H
         have H := H1
         clear H1
         replace H := Option.bind_eq_some_iff.mp H
         obtain ⟨⟨t1013, t1014, t1015⟩, A400, H⟩ := H
         replace H : ((withyref01_Near.f kj11 a0_0 a0_1 a2).bind fun bt1016 => (if t1015 = bt1016.2.2 then (withylaw01_NumNears.j1 kj11 l3 (!(t1013 == bt1016.1) || (!(t1014 == bt1016.2.1))) a0_0 a0_1) else (withylaw01_NumNears.j1 kj11 l3 true a0_0 a0_1))) = some r := H
         have A40 := Aside0.mk A400
         clear A400
         replace H := Option.bind_eq_some_iff.mp H
         obtain ⟨⟨t1016, t1017, t1018⟩, A410, H⟩ := H
         replace H : (if t1015 = t1018 then (withylaw01_NumNears.j1 kj11 l3 (!(t1013 == t1016) || (!(t1014 == t1017))) a0_0 a0_1) else (withylaw01_NumNears.j1 kj11 l3 true a0_0 a0_1)) = some r := H
         have A41 := Aside0.mk A410
         clear A410
         have HC42 := Aside0.mk H
         clear H
         have hnb43 := NB1002_1003.out
         have hnc43 := NB1003_1002.out
         have hnb44 := NB1002_1008.out
         have hnc44 := NB1008_1002.out
         have hnb45 := NB1002_1012.out
         have hnc45 := NB1012_1002.out
         obtain ⟨hcz46_0, hcz46_1, hfz46_0, hfz46_1⟩ := bc2_ BK1002
         go_upto_region 9 with (first | ((with_reducible refine gate_callee (f := 59) rfl ?_); refine gla_ (some 44) Try.func59 #[.agg #[.int .i64 a0_0, .int .i64 a0_1], .int .i64 a2] ?_; (with_reducible refine (num_Near.calls kj11 a0_0 a0_1 a2 t1013 t1014 t1015 _ A40.out).mono ?_); rintro e w47 ⟨rfl, hb⟩; refine ⟨_, rfl, ?_⟩; replace BK1002 := bkb_ BK1002 hb; replace BK1003 := bkb_ BK1003 hb; replace BK1008 := bkb_ BK1008 hb; replace BK1012 := bkb_ BK1012 hb; replace HB := bws_ HB hb; (try clear hb); (try clear hb2); (try clear hk); (try clear hi); have hnb48 := NB1008_1003.out; have hnc48 := NB1003_1008.out; have hnb49 := NB1008_1012.out; have hnc49 := NB1012_1008.out; obtain ⟨hcz50_0, hcz50_1, hfz50_0, hfz50_1⟩ := bc2_ BK1008; obtain ⟨hcz51_0, hcz51_1, hfz51_0, hfz51_1⟩ := bc2_ BK1002) | ((with_reducible refine gate_callee (f := 64) rfl ?_); refine gla_ (some 50) Try.func64 #[.agg #[.int .i64 a0_0, .int .i64 a0_1], .int .i64 a2] ?_; (with_reducible refine (withyref01_Near.calls kj11 a0_0 a0_1 a2 t1016 t1017 t1018 _ A41.out).mono ?_); rintro e w52 ⟨rfl, hb⟩; refine ⟨_, rfl, ?_⟩; replace BK1002 := Aside0.mk (blk_below (g := gb1002) (o := .cells #[.int .i64 a0_0, .int .i64 a0_1] 23 (0, 0)) (by refine bf_ ?_ NB1002_1008; refine bf_ ?_ NB1002_1008; exact bk_ BK1002) hb); replace BK1003 := Aside0.mk (blk_below (g := gb1003) (o := .cells #[.int .i64 a1_0, .int .i64 a1_1] 23 (0, 0)) (by refine bf_ ?_ NB1003_1008; refine bf_ ?_ NB1003_1008; exact bk_ BK1003) hb); replace BK1008 := Aside0.mk (blk_below (g := gb1008) (o := .cells #[.int .i64 t1013, .int .i64 t1014] 23 (0, 0)) (by refine bp_ (cs := #[.int .i64 t1013, .int .i64 t1006]) ?_ 1; refine bp_ (cs := #[.int .i64 t1005, .int .i64 t1006]) ?_ 0; exact bk_ BK1008) hb); replace BK1012 := Aside0.mk (blk_below (g := gb1012) (o := .cells #[.int .i64 t1009, .int .i64 t1010] 23 (0, 0)) (by refine bf_ ?_ NB1012_1008; refine bf_ ?_ NB1012_1008; exact bk_ BK1012) hb); replace HB := bws_ HB hb; (try clear hb); (try clear hb2); (try clear hk); (try clear hi); have hnb53 := NB1012_1003.out; have hnc53 := NB1003_1012.out; obtain ⟨hcz54_0, hcz54_1, hfz54_0, hfz54_1⟩ := bc2_ BK1012))
         (try simp only [Act.put, List.setIfInBounds_toArray, List.set_cons_zero, List.set_cons_succ])
         go_cut [60] (fun v60 wc => ∃ (kq : Nat) (x60_41 : Bool), v60 = .bool x60_41 ∧ Aside0 (withylaw01_NumNears.j1 kq l3 x60_41 a0_0 a0_1 = some r) ∧ Aside0 (kq ≤ kj11) ∧ Aside0 (wc.heap[gb1002]? = some (.cells #[.int .i64 a0_0, .int .i64 a0_1] 23 (0, 0))) ∧ Aside0 (wc.heap[gb1003]? = some (.cells #[.int .i64 a1_0, .int .i64 a1_1] 23 (0, 0))) ∧ Aside0 (wc.heap[gb1008]? = some (.cells #[.int .i64 t1013, .int .i64 t1014] 23 (0, 0))) ∧ Aside0 (wc.heap[gb1012]? = some (.cells #[.int .i64 t1016, .int .i64 t1017] 23 (0, 0))) ∧ Aside0 (Below w.heap.size w wc))
         case first =>
          as_aux_lemma =>
           have H := HC42.out
           clear HC42
           by_cases c55 : t1015 = t1018
           · rw [if_pos c55] at H
             have c55b0 : (t1015 == t1018) = true := beq_iff_eq.mpr c55
             have c55b1 : (t1015 != t1018) = false := bne_eq_false_iff_eq.mpr c55
             clear c55
             (first | rw [c55b0] | (simp only [i64_w, i32_w]; rw [c55b0]) | skip)
             have H' := Aside0.mk H
             clear H
             have hnb56 := NB1008_1002.out
             have hnc56 := NB1002_1008.out
             have hnb57 := NB1008_1003.out
             have hnc57 := NB1003_1008.out
             have hnb58 := NB1008_1012.out
             have hnc58 := NB1012_1008.out
             obtain ⟨hcz59_0, hcz59_1, hfz59_0, hfz59_1⟩ := bc2_ BK1008
             have hnb60 := NB1012_1002.out
             have hnc60 := NB1002_1012.out
             have hnb61 := NB1012_1003.out
             have hnc61 := NB1003_1012.out
             obtain ⟨hcz62_0, hcz62_1, hfz62_0, hfz62_1⟩ := bc2_ BK1012
             go_wp2
             go_meet
             case rel => exact ⟨_, ((!(t1013 == t1016) || (!(t1014 == t1017)))), (by first | rfl | (simp; done) | (simp [*]; done)), H', ⟨by have := HJ11.out; first | omega | exact Nat.le_refl _⟩, ⟨by refine bf_ ?_ NB1002_1012; refine bf_ ?_ NB1002_1012; exact bk_ BK1002⟩, ⟨by refine bf_ ?_ NB1003_1012; refine bf_ ?_ NB1003_1012; exact bk_ BK1003⟩, ⟨by refine bf_ ?_ NB1008_1012; refine bf_ ?_ NB1008_1012; exact bk_ BK1008⟩, ⟨by refine bp_ (cs := #[.int .i64 t1016, .int .i64 t1010]) ?_ 1; refine bp_ (cs := #[.int .i64 t1009, .int .i64 t1010]) ?_ 0; exact bk_ BK1012⟩, ⟨bw_ HB⟩⟩
           · rw [if_neg c55] at H
             have c55b0 : (t1015 == t1018) = false := beq_eq_false_iff_ne.mpr c55
             have c55b1 : (t1015 != t1018) = true := bne_iff_ne.mpr c55
             (first | rw [c55b0] | (simp only [i64_w, i32_w]; rw [c55b0]) | skip)
             have H' := Aside0.mk H
             clear H
             go_wp2
             go_meet
             case rel => exact ⟨_, (true), (by first | rfl | (simp; done) | (simp [*]; done)), H', ⟨by have := HJ11.out; first | omega | exact Nat.le_refl _⟩, ⟨by refine bf_ ?_ NB1002_1012; refine bf_ ?_ NB1002_1012; exact bk_ BK1002⟩, ⟨by refine bf_ ?_ NB1003_1012; refine bf_ ?_ NB1003_1012; exact bk_ BK1003⟩, ⟨by refine bf_ ?_ NB1008_1012; refine bf_ ?_ NB1008_1012; exact bk_ BK1008⟩, ⟨by refine bp_ (cs := #[.int .i64 t1016, .int .i64 t1010]) ?_ 1; refine bp_ (cs := #[.int .i64 t1009, .int .i64 t1010]) ?_ 0; exact bk_ BK1012⟩, ⟨bw_ HB⟩⟩
         case rest =>
          as_aux_lemma =>
           clear HC42
           try clear c1
           try clear c2
           try clear p2
           try clear c3
           try clear c4
           try clear c5
           try clear c5b0
           try clear c5b1
           try clear c6
           try clear c15
           try clear c17
           try clear c20
           try clear c21
           try clear c25
           try clear c27
           try clear c28
           try clear c29
           try clear c31
           try clear c31b0
           try clear c31b1
           try clear c32
           try clear c33
           try clear c34
           try clear c36
           try clear c37
           try clear c39
           try clear c43
           try clear c44
           try clear c45
           try clear c48
           try clear c49
           try clear c53
           try clear c55
           try clear c55b0
           try clear c55b1
           try clear c56
           try clear c57
           try clear c58
           try clear c59
           try clear c60
           try clear c61
           try clear hcz16_0
           try clear hcz16_1
           try clear hcz17_0
           try clear hcz17_1
           try clear hcz22_0
           try clear hcz22_1
           try clear hcz23_0
           try clear hcz23_1
           try clear hcz24_0
           try clear hcz24_1
           try clear hcz30_0
           try clear hcz30_1
           try clear hcz35_0
           try clear hcz35_1
           try clear hcz38_0
           try clear hcz38_1
           try clear hcz46_0
           try clear hcz46_1
           try clear hcz50_0
           try clear hcz50_1
           try clear hcz51_0
           try clear hcz51_1
           try clear hcz54_0
           try clear hcz54_1
           try clear hcz59_0
           try clear hcz59_1
           try clear hcz62_0
           try clear hcz62_1
           try clear hfz16_0
           try clear hfz16_1
           try clear hfz17_0
           try clear hfz17_1
           try clear hfz22_0
           try clear hfz22_1
           try clear hfz23_0
           try clear hfz23_1
           try clear hfz24_0
           try clear hfz24_1
           try clear hfz30_0
           try clear hfz30_1
           try clear hfz35_0
           try clear hfz35_1
           try clear hfz38_0
           try clear hfz38_1
           try clear hfz46_0
           try clear hfz46_1
           try clear hfz50_0
           try clear hfz50_1
           try clear hfz51_0
           try clear hfz51_1
           try clear hfz54_0
           try clear hfz54_1
           try clear hfz59_0
           try clear hfz59_1
           try clear hfz62_0
           try clear hfz62_1
           try clear p2
           obtain ⟨kq, x60_41, rfl, HA, HJ41, BK1002, BK1003, BK1008, BK1012, HB⟩ := hcut
           cases kq with
           | zero => exact absurd HA.out (by simp [withylaw01_NumNears.j1])
           | succ kj41 =>
            have H := HA.out
            clear HA
            simp only [withylaw01_NumNears.j1] at H
            by_cases c63 : x60_41 = true
            · subst c63
              have H1 : (some false) = some r := by rw [if_pos rfl] at H; exact H
              clear H
              have H := H1
              clear H1
              obtain rfl := Option.some.inj H
              go_wp2
              go_ret
              exact ⟨by first | rfl | (simp [*] <;> rfl), bw_ HB⟩
            · replace c63 := Bool.eq_false_iff.mpr c63
              subst c63
              have H1 : ((num_Terms.f kj41 a0_0 a0_1).bind fun bt1019 => ((withyref01_Terms.f kj41 a0_0 a0_1).bind fun bt1023 => ((num_Of.f kj41 l3).bind fun bt1027 => ((withyref01_Of.f kj41 l3).bind fun bt1030 => (if bt1027.2.2 = bt1030.2.2 then (if (bt1027.1 == bt1030.1 && (bt1027.2.1 == bt1030.2.1)) = true then (if bt1019.2 = bt1023.2 then ((withyref01_Alike.f kj41 bt1019.1 bt1023.1).bind fun t1033 => (if t1033 = true then ((withylaw01_summed.f kj41).bind fun t1034 => (some t1034)) else (some false))) else (some false)) else (some false)) else (some false)))))) = some r := by rw [if_neg (show ¬ (false = true) by decide)] at H; exact H
              clear H
              have H := H1
              clear H1
              replace H := Option.bind_eq_some_iff.mp H
              obtain ⟨⟨t1019, t1022⟩, A640, H⟩ := H
              replace H : ((withyref01_Terms.f kj41 a0_0 a0_1).bind fun bt1023 => ((num_Of.f kj41 l3).bind fun bt1027 => ((withyref01_Of.f kj41 l3).bind fun bt1030 => (if bt1027.2.2 = bt1030.2.2 then (if (bt1027.1 == bt1030.1 && (bt1027.2.1 == bt1030.2.1)) = true then (if t1022 = bt1023.2 then ((withyref01_Alike.f kj41 t1019 bt1023.1).bind fun t1033 => (if t1033 = true then ((withylaw01_summed.f kj41).bind fun t1034 => (some t1034)) else (some false))) else (some false)) else (some false)) else (some false))))) = some r := H
              have A64 := Aside0.mk A640
              clear A640
              replace H := Option.bind_eq_some_iff.mp H
              obtain ⟨⟨t1023, t1026⟩, A650, H⟩ := H
              replace H : ((num_Of.f kj41 l3).bind fun bt1027 => ((withyref01_Of.f kj41 l3).bind fun bt1030 => (if bt1027.2.2 = bt1030.2.2 then (if (bt1027.1 == bt1030.1 && (bt1027.2.1 == bt1030.2.1)) = true then (if t1022 = t1026 then ((withyref01_Alike.f kj41 t1019 t1023).bind fun t1033 => (if t1033 = true then ((withylaw01_summed.f kj41).bind fun t1034 => (some t1034)) else (some false))) else (some false)) else (some false)) else (some false)))) = some r := H
              have A65 := Aside0.mk A650
              clear A650
              replace H := Option.bind_eq_some_iff.mp H
              obtain ⟨⟨t1027, t1028, t1029⟩, A660, H⟩ := H
              replace H : ((withyref01_Of.f kj41 l3).bind fun bt1030 => (if t1029 = bt1030.2.2 then (if (t1027 == bt1030.1 && (t1028 == bt1030.2.1)) = true then (if t1022 = t1026 then ((withyref01_Alike.f kj41 t1019 t1023).bind fun t1033 => (if t1033 = true then ((withylaw01_summed.f kj41).bind fun t1034 => (some t1034)) else (some false))) else (some false)) else (some false)) else (some false))) = some r := H
              have A66 := Aside0.mk A660
              clear A660
              replace H := Option.bind_eq_some_iff.mp H
              obtain ⟨⟨t1030, t1031, t1032⟩, A670, H⟩ := H
              replace H : (if t1029 = t1032 then (if (t1027 == t1030 && (t1028 == t1031)) = true then (if t1022 = t1026 then ((withyref01_Alike.f kj41 t1019 t1023).bind fun t1033 => (if t1033 = true then ((withylaw01_summed.f kj41).bind fun t1034 => (some t1034)) else (some false))) else (some false)) else (some false)) else (some false)) = some r := H
              have A67 := Aside0.mk A670
              clear A670
              by_cases c68 : t1029 = t1032
              · rw [if_pos c68] at H
                have c68b0 : (t1029 == t1032) = true := beq_iff_eq.mpr c68
                have c68b1 : (t1029 != t1032) = false := bne_eq_false_iff_eq.mpr c68
                clear c68
                by_cases c69 : (t1027 == t1030 && (t1028 == t1031)) = true
                · rw [if_pos c69] at H
                  have c69b0 : (t1027 == t1030 && (t1028 == t1031)) = true := c69
                  (try (have c69b1 : decide (t1027 = t1030 && (t1028 == t1031)) = true := by simpa using c69))
                  (try (have c69b2 : (t1027 == t1030 && (t1028 == t1031)) = true := by simpa using c69))
                  clear c69
                  by_cases c70 : t1022 = t1026
                  · rw [if_pos c70] at H
                    have c70b0 : (t1022 == t1026) = true := beq_iff_eq.mpr c70
                    have c70b1 : (t1022 != t1026) = false := bne_eq_false_iff_eq.mpr c70
                    clear c70
                    replace H := Option.bind_eq_some_iff.mp H
                    obtain ⟨t1033, A710, H⟩ := H
                    replace H : (if t1033 = true then ((withylaw01_summed.f kj41).bind fun t1034 => (some t1034)) else (some false)) = some r := H
                    have A71 := Aside0.mk A710
                    clear A710
                    by_cases c72 : t1033 = true
                    · subst c72
                      have H1 : ((withylaw01_summed.f kj41).bind fun t1034 => (some t1034)) = some r := by rw [if_pos rfl] at H; exact H
                      clear H
                      have H := H1
                      clear H1
                      replace H := Option.bind_eq_some_iff.mp H
                      obtain ⟨t1034, A730, H⟩ := H
                      replace H : (some t1034) = some r := H
                      have A73 := Aside0.mk A730
                      clear A730
                      obtain rfl := Option.some.inj H
                      have hnb74 := NB1002_1003.out
                      have hnc74 := NB1003_1002.out
                      have hnb75 := NB1002_1008.out
                      have hnc75 := NB1008_1002.out
                      have hnb76 := NB1002_1012.out
                      have hnc76 := NB1012_1002.out
                      obtain ⟨hcz77_0, hcz77_1, hfz77_0, hfz77_1⟩ := bc2_ BK1002
                      go_wp2_with (first | ((with_reducible refine gate_callee (f := 60) rfl ?_); refine gla_ (some 63) Try.func60 #[.agg #[.int .i64 a0_0, .int .i64 a0_1]] ?_; (with_reducible refine (num_Terms.calls kj41 a0_0 a0_1 t1019 t1022 _ A64.out).mono ?_); rintro e w78 ⟨v1020, rfl, ho0, hb⟩; refine ⟨_, rfl, ?_⟩; have HO1021 := Aside0.mk (Kd.R_lower ho0 (below_size (bw_ HB))); replace BK1002 := bkb_ BK1002 hb; replace BK1003 := bkb_ BK1003 hb; replace BK1008 := bkb_ BK1008 hb; replace BK1012 := bkb_ BK1012 hb; replace HB := bws_ HB hb; (try clear hb); (try clear hb2); (try clear hk); (try clear hi); (try clear ho0); obtain ⟨hcz79_0, hcz79_1, hfz79_0, hfz79_1⟩ := bc2_ BK1002) | ((with_reducible refine gate_callee (f := 65) rfl ?_); refine gla_ (some 68) Try.func65 #[.agg #[.int .i64 a0_0, .int .i64 a0_1]] ?_; (with_reducible refine (withyref01_Terms.calls kj41 a0_0 a0_1 t1023 t1026 _ A65.out).mono ?_); rintro e w80 ⟨v1024, rfl, ho0, hb⟩; refine ⟨_, rfl, ?_⟩; have HO1025 := Aside0.mk (Kd.R_lower (Kd.R_new' ho0 (Kd.R_lt (by (with_reducible repeat (first | apply Kd.R_alloc | apply Kd.R_drewN | apply Kd.R_drew)); exact HO1021.out))) (below_size (bw_ HB))); replace HO1021 := Aside0.mk (Kd.R_elder' (by (with_reducible repeat (first | apply Kd.R_alloc | apply Kd.R_drewN | apply Kd.R_drew)); exact HO1021.out) (Kd.R_base ho0) hb); replace BK1002 := bkb_ BK1002 hb; replace BK1003 := bkb_ BK1003 hb; replace BK1008 := bkb_ BK1008 hb; replace BK1012 := bkb_ BK1012 hb; replace HB := bws_ HB hb; (try clear hb); (try clear hb2); (try clear hk); (try clear hi); (try clear ho0)) | ((with_reducible refine gate_callee (f := 61) rfl ?_); refine gla_ (some 73) Try.func61 #[.slice A3 l3.length c3] ?_; (with_reducible refine (num_Of.calls kj41 _ _ l3 t1027 t1028 t1029 _ ?side1 ?side2 A66.out).mono ?_); (case side1 => repeat (first | exact (Kd.C_below HR3.out HB.out) | (with_reducible refine Kd.C_alloc ?_ _) | (with_reducible refine Kd.C_drewN ?_ _) | (with_reducible refine Kd.C_drew ?_))); (case side2 => exact HC3.out); rintro e w81 ⟨rfl, hb⟩; refine ⟨_, rfl, ?_⟩; replace HO1021 := Aside0.mk (Kd.R_below (by (with_reducible repeat (first | apply Kd.R_alloc | apply Kd.R_drewN | apply Kd.R_drew)); exact HO1021.out) hb); replace HO1025 := Aside0.mk (Kd.R_below (by (with_reducible repeat (first | apply Kd.R_alloc | apply Kd.R_drewN | apply Kd.R_drew)); exact HO1025.out) hb); replace BK1002 := bkb_ BK1002 hb; replace BK1003 := bkb_ BK1003 hb; replace BK1008 := bkb_ BK1008 hb; replace BK1012 := bkb_ BK1012 hb; replace HB := bws_ HB hb; (try clear hb); (try clear hb2); (try clear hk); (try clear hi); have hnb82 := NB1008_1003.out; have hnc82 := NB1003_1008.out; have hnb83 := NB1008_1012.out; have hnc83 := NB1012_1008.out; obtain ⟨hcz84_0, hcz84_1, hfz84_0, hfz84_1⟩ := bc2_ BK1008) | ((with_reducible refine gate_callee (f := 66) rfl ?_); refine gla_ (some 78) Try.func66 #[.slice A3 l3.length c3] ?_; (with_reducible refine (withyref01_Of.calls kj41 _ _ l3 t1030 t1031 t1032 _ ?side1 ?side2 A67.out).mono ?_); (case side1 => exact Kd.C_below HR3.out (bw_ HB)); (case side2 => exact HC3.out); rintro e w85 ⟨rfl, hb⟩; refine ⟨_, rfl, ?_⟩; replace HO1021 := Aside0.mk (Kd.R_below (by (with_reducible repeat (first | apply Kd.R_alloc | apply Kd.R_drewN | apply Kd.R_drew)); exact (Kd.R_mono (Kd.R_far (p := ⟨gb1008, 1, none⟩) (Kd.R_far (p := ⟨gb1008, 0, none⟩) (Kd.R_types HO1021.out BK1008.out (by decide)) (fun _ hk => hk.2) (.int .i64 t1027)) (fun _ hk => hk.2) (.int .i64 t1028)) (fun _ h_ => h_.1))) hb); replace HO1025 := Aside0.mk (Kd.R_below (by (with_reducible repeat (first | apply Kd.R_alloc | apply Kd.R_drewN | apply Kd.R_drew)); exact (Kd.R_mono (Kd.R_far (p := ⟨gb1008, 1, none⟩) (Kd.R_far (p := ⟨gb1008, 0, none⟩) (Kd.R_types HO1025.out BK1008.out (by decide)) (fun _ hk => hk.2) (.int .i64 t1027)) (fun _ hk => hk.2) (.int .i64 t1028)) (fun _ h_ => h_.1))) hb); replace BK1002 := Aside0.mk (blk_below (g := gb1002) (o := .cells #[.int .i64 a0_0, .int .i64 a0_1] 23 (0, 0)) (by refine bf_ ?_ NB1002_1008; refine bf_ ?_ NB1002_1008; exact bk_ BK1002) hb); replace BK1003 := Aside0.mk (blk_below (g := gb1003) (o := .cells #[.int .i64 a1_0, .int .i64 a1_1] 23 (0, 0)) (by refine bf_ ?_ NB1003_1008; refine bf_ ?_ NB1003_1008; exact bk_ BK1003) hb); replace BK1008 := Aside0.mk (blk_below (g := gb1008) (o := .cells #[.int .i64 t1027, .int .i64 t1028] 23 (0, 0)) (by refine bp_ (cs := #[.int .i64 t1027, .int .i64 t1014]) ?_ 1; refine bp_ (cs := #[.int .i64 t1013, .int .i64 t1014]) ?_ 0; exact bk_ BK1008) hb); replace BK1012 := Aside0.mk (blk_below (g := gb1012) (o := .cells #[.int .i64 t1016, .int .i64 t1017] 23 (0, 0)) (by refine bf_ ?_ NB1012_1008; refine bf_ ?_ NB1012_1008; exact bk_ BK1012) hb); replace HB := bws_ HB hb; (try clear hb); (try clear hb2); (try clear hk); (try clear hi); have hnb86 := NB1012_1003.out; have hnc86 := NB1003_1012.out; obtain ⟨hcz87_0, hcz87_1, hfz87_0, hfz87_1⟩ := bc2_ BK1012; obtain ⟨hcz88_0, hcz88_1, hfz88_0, hfz88_1⟩ := bc2_ BK1008; obtain ⟨Ao89, co89, eo89⟩ := Kd.R_slice HO1021.out; subst eo89; obtain ⟨Ao90, co90, eo90⟩ := Kd.R_slice HO1025.out; subst eo90) | (go_at_call 62; (with_reducible refine (withyref01_Alike.calls kj41 _ _ t1019 _ _ t1023 true _ ?side1 ?side2 ?side3 ?side4 A71.out).mono ?_); (case side1 => refine (Kd.R_reads' (e := 3) (base := w.heap.size) (ok := fun k_ => (True ∧ some k_ ≠ (.slice Ao90 t1023.length co90 : Value).ownBlock)) (n := t1019.length) (c := co89) ?_).2.2; exact (by (with_reducible repeat (first | apply Kd.R_alloc | apply Kd.R_drewN | apply Kd.R_drew)); exact (Kd.R_mono (Kd.R_far (p := ⟨gb1012, 1, none⟩) (Kd.R_far (p := ⟨gb1012, 0, none⟩) (Kd.R_types HO1021.out BK1012.out (by decide)) (fun _ hk => hk.2) (.int .i64 t1030)) (fun _ hk => hk.2) (.int .i64 t1031)) (fun _ h_ => h_.1)))); (case side2 => exact (Kd.R_reads' HO1021.out).2.1); (case side3 => refine (Kd.R_reads' (e := 3) (base := w.heap.size) (ok := fun k_ => (True ∧ some k_ ≠ (.slice Ao89 t1019.length co89 : Value).ownBlock)) (n := t1023.length) (c := co90) ?_).2.2; exact (by (with_reducible repeat (first | apply Kd.R_alloc | apply Kd.R_drewN | apply Kd.R_drew)); exact (Kd.R_mono (Kd.R_far (p := ⟨gb1012, 1, none⟩) (Kd.R_far (p := ⟨gb1012, 0, none⟩) (Kd.R_types HO1025.out BK1012.out (by decide)) (fun _ hk => hk.2) (.int .i64 t1030)) (fun _ hk => hk.2) (.int .i64 t1031)) (fun _ h_ => h_.1)))); (case side4 => exact (Kd.R_reads' HO1025.out).2.1); rintro e w' ⟨rfl, ⟨nd, rfl⟩⟩) | (go_at_call 17; (with_reducible refine (withylaw01_summed.calls kj41  t1034 _ A73.out).mono ?_); rintro e w91 ⟨rfl, hb⟩; replace HO1021 := Aside0.mk (Kd.R_below (by (with_reducible repeat (first | apply Kd.R_alloc | apply Kd.R_drewN | apply Kd.R_drew)); exact (Kd.R_mono (Kd.R_far (p := ⟨gb1012, 1, none⟩) (Kd.R_far (p := ⟨gb1012, 0, none⟩) (Kd.R_types HO1021.out BK1012.out (by decide)) (fun _ hk => hk.2) (.int .i64 t1030)) (fun _ hk => hk.2) (.int .i64 t1031)) (fun _ h_ => h_.1))) hb); replace HO1025 := Aside0.mk (Kd.R_below (by (with_reducible repeat (first | apply Kd.R_alloc | apply Kd.R_drewN | apply Kd.R_drew)); exact (Kd.R_mono (Kd.R_far (p := ⟨gb1012, 1, none⟩) (Kd.R_far (p := ⟨gb1012, 0, none⟩) (Kd.R_types HO1025.out BK1012.out (by decide)) (fun _ hk => hk.2) (.int .i64 t1030)) (fun _ hk => hk.2) (.int .i64 t1031)) (fun _ h_ => h_.1))) hb); replace BK1002 := Aside0.mk (blk_below (g := gb1002) (o := .cells #[.int .i64 a0_0, .int .i64 a0_1] 23 (0, 0)) (by refine bf_ ?_ NB1002_1012; refine bf_ ?_ NB1002_1012; exact bk_ BK1002) hb); replace BK1003 := Aside0.mk (blk_below (g := gb1003) (o := .cells #[.int .i64 a1_0, .int .i64 a1_1] 23 (0, 0)) (by refine bf_ ?_ NB1003_1012; refine bf_ ?_ NB1003_1012; exact bk_ BK1003) hb); replace BK1008 := Aside0.mk (blk_below (g := gb1008) (o := .cells #[.int .i64 t1027, .int .i64 t1028] 23 (0, 0)) (by refine bf_ ?_ NB1008_1012; refine bf_ ?_ NB1008_1012; exact bk_ BK1008) hb); replace BK1012 := Aside0.mk (blk_below (g := gb1012) (o := .cells #[.int .i64 t1030, .int .i64 t1031] 23 (0, 0)) (by refine bp_ (cs := #[.int .i64 t1030, .int .i64 t1017]) ?_ 1; refine bp_ (cs := #[.int .i64 t1016, .int .i64 t1017]) ?_ 0; exact bk_ BK1012) hb); replace HB := bws_ HB hb; (try clear hb); (try clear hb2); (try clear hk); (try clear hi)))
                      go_ret
                      exact ⟨by first | rfl | (simp [*] <;> rfl), bw_ HB⟩
                    · replace c72 := Bool.eq_false_iff.mpr c72
                      subst c72
                      have H1 : (some false) = some r := by rw [if_neg (show ¬ (false = true) by decide)] at H; exact H
                      clear H
                      have H := H1
                      clear H1
                      obtain rfl := Option.some.inj H
                      have hnb92 := NB1002_1003.out
                      have hnc92 := NB1003_1002.out
                      have hnb93 := NB1002_1008.out
                      have hnc93 := NB1008_1002.out
                      have hnb94 := NB1002_1012.out
                      have hnc94 := NB1012_1002.out
                      obtain ⟨hcz95_0, hcz95_1, hfz95_0, hfz95_1⟩ := bc2_ BK1002
                      go_wp2_with (first | ((with_reducible refine gate_callee (f := 60) rfl ?_); refine gla_ (some 63) Try.func60 #[.agg #[.int .i64 a0_0, .int .i64 a0_1]] ?_; (with_reducible refine (num_Terms.calls kj41 a0_0 a0_1 t1019 t1022 _ A64.out).mono ?_); rintro e w96 ⟨v1020, rfl, ho0, hb⟩; refine ⟨_, rfl, ?_⟩; have HO1021 := Aside0.mk (Kd.R_lower ho0 (below_size (bw_ HB))); replace BK1002 := bkb_ BK1002 hb; replace BK1003 := bkb_ BK1003 hb; replace BK1008 := bkb_ BK1008 hb; replace BK1012 := bkb_ BK1012 hb; replace HB := bws_ HB hb; (try clear hb); (try clear hb2); (try clear hk); (try clear hi); (try clear ho0); obtain ⟨hcz97_0, hcz97_1, hfz97_0, hfz97_1⟩ := bc2_ BK1002) | ((with_reducible refine gate_callee (f := 65) rfl ?_); refine gla_ (some 68) Try.func65 #[.agg #[.int .i64 a0_0, .int .i64 a0_1]] ?_; (with_reducible refine (withyref01_Terms.calls kj41 a0_0 a0_1 t1023 t1026 _ A65.out).mono ?_); rintro e w98 ⟨v1024, rfl, ho0, hb⟩; refine ⟨_, rfl, ?_⟩; have HO1025 := Aside0.mk (Kd.R_lower (Kd.R_new' ho0 (Kd.R_lt (by (with_reducible repeat (first | apply Kd.R_alloc | apply Kd.R_drewN | apply Kd.R_drew)); exact HO1021.out))) (below_size (bw_ HB))); replace HO1021 := Aside0.mk (Kd.R_elder' (by (with_reducible repeat (first | apply Kd.R_alloc | apply Kd.R_drewN | apply Kd.R_drew)); exact HO1021.out) (Kd.R_base ho0) hb); replace BK1002 := bkb_ BK1002 hb; replace BK1003 := bkb_ BK1003 hb; replace BK1008 := bkb_ BK1008 hb; replace BK1012 := bkb_ BK1012 hb; replace HB := bws_ HB hb; (try clear hb); (try clear hb2); (try clear hk); (try clear hi); (try clear ho0)) | ((with_reducible refine gate_callee (f := 61) rfl ?_); refine gla_ (some 73) Try.func61 #[.slice A3 l3.length c3] ?_; (with_reducible refine (num_Of.calls kj41 _ _ l3 t1027 t1028 t1029 _ ?side1 ?side2 A66.out).mono ?_); (case side1 => repeat (first | exact (Kd.C_below HR3.out HB.out) | (with_reducible refine Kd.C_alloc ?_ _) | (with_reducible refine Kd.C_drewN ?_ _) | (with_reducible refine Kd.C_drew ?_))); (case side2 => exact HC3.out); rintro e w99 ⟨rfl, hb⟩; refine ⟨_, rfl, ?_⟩; replace HO1021 := Aside0.mk (Kd.R_below (by (with_reducible repeat (first | apply Kd.R_alloc | apply Kd.R_drewN | apply Kd.R_drew)); exact HO1021.out) hb); replace HO1025 := Aside0.mk (Kd.R_below (by (with_reducible repeat (first | apply Kd.R_alloc | apply Kd.R_drewN | apply Kd.R_drew)); exact HO1025.out) hb); replace BK1002 := bkb_ BK1002 hb; replace BK1003 := bkb_ BK1003 hb; replace BK1008 := bkb_ BK1008 hb; replace BK1012 := bkb_ BK1012 hb; replace HB := bws_ HB hb; (try clear hb); (try clear hb2); (try clear hk); (try clear hi); have hnb100 := NB1008_1003.out; have hnc100 := NB1003_1008.out; have hnb101 := NB1008_1012.out; have hnc101 := NB1012_1008.out; obtain ⟨hcz102_0, hcz102_1, hfz102_0, hfz102_1⟩ := bc2_ BK1008) | ((with_reducible refine gate_callee (f := 66) rfl ?_); refine gla_ (some 78) Try.func66 #[.slice A3 l3.length c3] ?_; (with_reducible refine (withyref01_Of.calls kj41 _ _ l3 t1030 t1031 t1032 _ ?side1 ?side2 A67.out).mono ?_); (case side1 => exact Kd.C_below HR3.out (bw_ HB)); (case side2 => exact HC3.out); rintro e w103 ⟨rfl, hb⟩; refine ⟨_, rfl, ?_⟩; replace HO1021 := Aside0.mk (Kd.R_below (by (with_reducible repeat (first | apply Kd.R_alloc | apply Kd.R_drewN | apply Kd.R_drew)); exact (Kd.R_mono (Kd.R_far (p := ⟨gb1008, 1, none⟩) (Kd.R_far (p := ⟨gb1008, 0, none⟩) (Kd.R_types HO1021.out BK1008.out (by decide)) (fun _ hk => hk.2) (.int .i64 t1027)) (fun _ hk => hk.2) (.int .i64 t1028)) (fun _ h_ => h_.1))) hb); replace HO1025 := Aside0.mk (Kd.R_below (by (with_reducible repeat (first | apply Kd.R_alloc | apply Kd.R_drewN | apply Kd.R_drew)); exact (Kd.R_mono (Kd.R_far (p := ⟨gb1008, 1, none⟩) (Kd.R_far (p := ⟨gb1008, 0, none⟩) (Kd.R_types HO1025.out BK1008.out (by decide)) (fun _ hk => hk.2) (.int .i64 t1027)) (fun _ hk => hk.2) (.int .i64 t1028)) (fun _ h_ => h_.1))) hb); replace BK1002 := Aside0.mk (blk_below (g := gb1002) (o := .cells #[.int .i64 a0_0, .int .i64 a0_1] 23 (0, 0)) (by refine bf_ ?_ NB1002_1008; refine bf_ ?_ NB1002_1008; exact bk_ BK1002) hb); replace BK1003 := Aside0.mk (blk_below (g := gb1003) (o := .cells #[.int .i64 a1_0, .int .i64 a1_1] 23 (0, 0)) (by refine bf_ ?_ NB1003_1008; refine bf_ ?_ NB1003_1008; exact bk_ BK1003) hb); replace BK1008 := Aside0.mk (blk_below (g := gb1008) (o := .cells #[.int .i64 t1027, .int .i64 t1028] 23 (0, 0)) (by refine bp_ (cs := #[.int .i64 t1027, .int .i64 t1014]) ?_ 1; refine bp_ (cs := #[.int .i64 t1013, .int .i64 t1014]) ?_ 0; exact bk_ BK1008) hb); replace BK1012 := Aside0.mk (blk_below (g := gb1012) (o := .cells #[.int .i64 t1016, .int .i64 t1017] 23 (0, 0)) (by refine bf_ ?_ NB1012_1008; refine bf_ ?_ NB1012_1008; exact bk_ BK1012) hb); replace HB := bws_ HB hb; (try clear hb); (try clear hb2); (try clear hk); (try clear hi); have hnb104 := NB1012_1003.out; have hnc104 := NB1003_1012.out; obtain ⟨hcz105_0, hcz105_1, hfz105_0, hfz105_1⟩ := bc2_ BK1012; obtain ⟨hcz106_0, hcz106_1, hfz106_0, hfz106_1⟩ := bc2_ BK1008; obtain ⟨Ao107, co107, eo107⟩ := Kd.R_slice HO1021.out; subst eo107; obtain ⟨Ao108, co108, eo108⟩ := Kd.R_slice HO1025.out; subst eo108) | (go_at_call 62; (with_reducible refine (withyref01_Alike.calls kj41 _ _ t1019 _ _ t1023 false _ ?side1 ?side2 ?side3 ?side4 A71.out).mono ?_); (case side1 => refine (Kd.R_reads' (e := 3) (base := w.heap.size) (ok := fun k_ => (True ∧ some k_ ≠ (.slice Ao108 t1023.length co108 : Value).ownBlock)) (n := t1019.length) (c := co107) ?_).2.2; exact (by (with_reducible repeat (first | apply Kd.R_alloc | apply Kd.R_drewN | apply Kd.R_drew)); exact (Kd.R_mono (Kd.R_far (p := ⟨gb1012, 1, none⟩) (Kd.R_far (p := ⟨gb1012, 0, none⟩) (Kd.R_types HO1021.out BK1012.out (by decide)) (fun _ hk => hk.2) (.int .i64 t1030)) (fun _ hk => hk.2) (.int .i64 t1031)) (fun _ h_ => h_.1)))); (case side2 => exact (Kd.R_reads' HO1021.out).2.1); (case side3 => refine (Kd.R_reads' (e := 3) (base := w.heap.size) (ok := fun k_ => (True ∧ some k_ ≠ (.slice Ao107 t1019.length co107 : Value).ownBlock)) (n := t1023.length) (c := co108) ?_).2.2; exact (by (with_reducible repeat (first | apply Kd.R_alloc | apply Kd.R_drewN | apply Kd.R_drew)); exact (Kd.R_mono (Kd.R_far (p := ⟨gb1012, 1, none⟩) (Kd.R_far (p := ⟨gb1012, 0, none⟩) (Kd.R_types HO1025.out BK1012.out (by decide)) (fun _ hk => hk.2) (.int .i64 t1030)) (fun _ hk => hk.2) (.int .i64 t1031)) (fun _ h_ => h_.1)))); (case side4 => exact (Kd.R_reads' HO1025.out).2.1); rintro e w' ⟨rfl, ⟨nd, rfl⟩⟩))
                      go_ret
                      exact ⟨by first | rfl | (simp [*] <;> rfl), bw_ HB⟩
                  · rw [if_neg c70] at H
                    have c70b0 : (t1022 == t1026) = false := beq_eq_false_iff_ne.mpr c70
                    have c70b1 : (t1022 != t1026) = true := bne_iff_ne.mpr c70
                    obtain rfl := Option.some.inj H
                    have hnb109 := NB1002_1003.out
                    have hnc109 := NB1003_1002.out
                    have hnb110 := NB1002_1008.out
                    have hnc110 := NB1008_1002.out
                    have hnb111 := NB1002_1012.out
                    have hnc111 := NB1012_1002.out
                    obtain ⟨hcz112_0, hcz112_1, hfz112_0, hfz112_1⟩ := bc2_ BK1002
                    go_wp2_with (first | ((with_reducible refine gate_callee (f := 60) rfl ?_); refine gla_ (some 63) Try.func60 #[.agg #[.int .i64 a0_0, .int .i64 a0_1]] ?_; (with_reducible refine (num_Terms.calls kj41 a0_0 a0_1 t1019 t1022 _ A64.out).mono ?_); rintro e w113 ⟨v1020, rfl, ho0, hb⟩; refine ⟨_, rfl, ?_⟩; have HO1021 := Aside0.mk (Kd.R_lower ho0 (below_size (bw_ HB))); replace BK1002 := bkb_ BK1002 hb; replace BK1003 := bkb_ BK1003 hb; replace BK1008 := bkb_ BK1008 hb; replace BK1012 := bkb_ BK1012 hb; replace HB := bws_ HB hb; (try clear hb); (try clear hb2); (try clear hk); (try clear hi); (try clear ho0); obtain ⟨hcz114_0, hcz114_1, hfz114_0, hfz114_1⟩ := bc2_ BK1002) | ((with_reducible refine gate_callee (f := 65) rfl ?_); refine gla_ (some 68) Try.func65 #[.agg #[.int .i64 a0_0, .int .i64 a0_1]] ?_; (with_reducible refine (withyref01_Terms.calls kj41 a0_0 a0_1 t1023 t1026 _ A65.out).mono ?_); rintro e w115 ⟨v1024, rfl, ho0, hb⟩; refine ⟨_, rfl, ?_⟩; have HO1025 := Aside0.mk (Kd.R_lower (Kd.R_new' ho0 (Kd.R_lt (by (with_reducible repeat (first | apply Kd.R_alloc | apply Kd.R_drewN | apply Kd.R_drew)); exact HO1021.out))) (below_size (bw_ HB))); replace HO1021 := Aside0.mk (Kd.R_elder' (by (with_reducible repeat (first | apply Kd.R_alloc | apply Kd.R_drewN | apply Kd.R_drew)); exact HO1021.out) (Kd.R_base ho0) hb); replace BK1002 := bkb_ BK1002 hb; replace BK1003 := bkb_ BK1003 hb; replace BK1008 := bkb_ BK1008 hb; replace BK1012 := bkb_ BK1012 hb; replace HB := bws_ HB hb; (try clear hb); (try clear hb2); (try clear hk); (try clear hi); (try clear ho0)) | ((with_reducible refine gate_callee (f := 61) rfl ?_); refine gla_ (some 73) Try.func61 #[.slice A3 l3.length c3] ?_; (with_reducible refine (num_Of.calls kj41 _ _ l3 t1027 t1028 t1029 _ ?side1 ?side2 A66.out).mono ?_); (case side1 => repeat (first | exact (Kd.C_below HR3.out HB.out) | (with_reducible refine Kd.C_alloc ?_ _) | (with_reducible refine Kd.C_drewN ?_ _) | (with_reducible refine Kd.C_drew ?_))); (case side2 => exact HC3.out); rintro e w116 ⟨rfl, hb⟩; refine ⟨_, rfl, ?_⟩; replace HO1021 := Aside0.mk (Kd.R_below (by (with_reducible repeat (first | apply Kd.R_alloc | apply Kd.R_drewN | apply Kd.R_drew)); exact HO1021.out) hb); replace HO1025 := Aside0.mk (Kd.R_below (by (with_reducible repeat (first | apply Kd.R_alloc | apply Kd.R_drewN | apply Kd.R_drew)); exact HO1025.out) hb); replace BK1002 := bkb_ BK1002 hb; replace BK1003 := bkb_ BK1003 hb; replace BK1008 := bkb_ BK1008 hb; replace BK1012 := bkb_ BK1012 hb; replace HB := bws_ HB hb; (try clear hb); (try clear hb2); (try clear hk); (try clear hi); have hnb117 := NB1008_1003.out; have hnc117 := NB1003_1008.out; have hnb118 := NB1008_1012.out; have hnc118 := NB1012_1008.out; obtain ⟨hcz119_0, hcz119_1, hfz119_0, hfz119_1⟩ := bc2_ BK1008) | ((with_reducible refine gate_callee (f := 66) rfl ?_); refine gla_ (some 78) Try.func66 #[.slice A3 l3.length c3] ?_; (with_reducible refine (withyref01_Of.calls kj41 _ _ l3 t1030 t1031 t1032 _ ?side1 ?side2 A67.out).mono ?_); (case side1 => exact Kd.C_below HR3.out (bw_ HB)); (case side2 => exact HC3.out); rintro e w120 ⟨rfl, hb⟩; refine ⟨_, rfl, ?_⟩; replace HO1021 := Aside0.mk (Kd.R_below (by (with_reducible repeat (first | apply Kd.R_alloc | apply Kd.R_drewN | apply Kd.R_drew)); exact (Kd.R_mono (Kd.R_far (p := ⟨gb1008, 1, none⟩) (Kd.R_far (p := ⟨gb1008, 0, none⟩) (Kd.R_types HO1021.out BK1008.out (by decide)) (fun _ hk => hk.2) (.int .i64 t1027)) (fun _ hk => hk.2) (.int .i64 t1028)) (fun _ h_ => h_.1))) hb); replace HO1025 := Aside0.mk (Kd.R_below (by (with_reducible repeat (first | apply Kd.R_alloc | apply Kd.R_drewN | apply Kd.R_drew)); exact (Kd.R_mono (Kd.R_far (p := ⟨gb1008, 1, none⟩) (Kd.R_far (p := ⟨gb1008, 0, none⟩) (Kd.R_types HO1025.out BK1008.out (by decide)) (fun _ hk => hk.2) (.int .i64 t1027)) (fun _ hk => hk.2) (.int .i64 t1028)) (fun _ h_ => h_.1))) hb); replace BK1002 := Aside0.mk (blk_below (g := gb1002) (o := .cells #[.int .i64 a0_0, .int .i64 a0_1] 23 (0, 0)) (by refine bf_ ?_ NB1002_1008; refine bf_ ?_ NB1002_1008; exact bk_ BK1002) hb); replace BK1003 := Aside0.mk (blk_below (g := gb1003) (o := .cells #[.int .i64 a1_0, .int .i64 a1_1] 23 (0, 0)) (by refine bf_ ?_ NB1003_1008; refine bf_ ?_ NB1003_1008; exact bk_ BK1003) hb); replace BK1008 := Aside0.mk (blk_below (g := gb1008) (o := .cells #[.int .i64 t1027, .int .i64 t1028] 23 (0, 0)) (by refine bp_ (cs := #[.int .i64 t1027, .int .i64 t1014]) ?_ 1; refine bp_ (cs := #[.int .i64 t1013, .int .i64 t1014]) ?_ 0; exact bk_ BK1008) hb); replace BK1012 := Aside0.mk (blk_below (g := gb1012) (o := .cells #[.int .i64 t1016, .int .i64 t1017] 23 (0, 0)) (by refine bf_ ?_ NB1012_1008; refine bf_ ?_ NB1012_1008; exact bk_ BK1012) hb); replace HB := bws_ HB hb; (try clear hb); (try clear hb2); (try clear hk); (try clear hi); have hnb121 := NB1012_1003.out; have hnc121 := NB1003_1012.out; obtain ⟨hcz122_0, hcz122_1, hfz122_0, hfz122_1⟩ := bc2_ BK1012; obtain ⟨hcz123_0, hcz123_1, hfz123_0, hfz123_1⟩ := bc2_ BK1008))
                    go_ret
                    exact ⟨by first | rfl | (simp [*] <;> rfl), bw_ HB⟩
                · rw [if_neg c69] at H
                  have c69b0 : (t1027 == t1030 && (t1028 == t1031)) = false := by simpa using c69
                  (try (have c69b1 : decide (t1027 = t1030 && (t1028 == t1031)) = false := by simpa using c69))
                  (try (have c69b2 : (t1027 == t1030 && (t1028 == t1031)) = false := by simpa using c69))
                  (try (have c69b3 : ¬ (t1027 = t1030 && (t1028 == t1031)) := by simpa using c69))
                  clear c69
                  obtain rfl := Option.some.inj H
                  have hnb124 := NB1002_1003.out
                  have hnc124 := NB1003_1002.out
                  have hnb125 := NB1002_1008.out
                  have hnc125 := NB1008_1002.out
                  have hnb126 := NB1002_1012.out
                  have hnc126 := NB1012_1002.out
                  obtain ⟨hcz127_0, hcz127_1, hfz127_0, hfz127_1⟩ := bc2_ BK1002
                  go_wp2_with (first | ((with_reducible refine gate_callee (f := 60) rfl ?_); refine gla_ (some 63) Try.func60 #[.agg #[.int .i64 a0_0, .int .i64 a0_1]] ?_; (with_reducible refine (num_Terms.calls kj41 a0_0 a0_1 t1019 t1022 _ A64.out).mono ?_); rintro e w128 ⟨v1020, rfl, ho0, hb⟩; refine ⟨_, rfl, ?_⟩; have HO1021 := Aside0.mk (Kd.R_lower ho0 (below_size (bw_ HB))); replace BK1002 := bkb_ BK1002 hb; replace BK1003 := bkb_ BK1003 hb; replace BK1008 := bkb_ BK1008 hb; replace BK1012 := bkb_ BK1012 hb; replace HB := bws_ HB hb; (try clear hb); (try clear hb2); (try clear hk); (try clear hi); (try clear ho0); obtain ⟨hcz129_0, hcz129_1, hfz129_0, hfz129_1⟩ := bc2_ BK1002) | ((with_reducible refine gate_callee (f := 65) rfl ?_); refine gla_ (some 68) Try.func65 #[.agg #[.int .i64 a0_0, .int .i64 a0_1]] ?_; (with_reducible refine (withyref01_Terms.calls kj41 a0_0 a0_1 t1023 t1026 _ A65.out).mono ?_); rintro e w130 ⟨v1024, rfl, ho0, hb⟩; refine ⟨_, rfl, ?_⟩; have HO1025 := Aside0.mk (Kd.R_lower (Kd.R_new' ho0 (Kd.R_lt (by (with_reducible repeat (first | apply Kd.R_alloc | apply Kd.R_drewN | apply Kd.R_drew)); exact HO1021.out))) (below_size (bw_ HB))); replace HO1021 := Aside0.mk (Kd.R_elder' (by (with_reducible repeat (first | apply Kd.R_alloc | apply Kd.R_drewN | apply Kd.R_drew)); exact HO1021.out) (Kd.R_base ho0) hb); replace BK1002 := bkb_ BK1002 hb; replace BK1003 := bkb_ BK1003 hb; replace BK1008 := bkb_ BK1008 hb; replace BK1012 := bkb_ BK1012 hb; replace HB := bws_ HB hb; (try clear hb); (try clear hb2); (try clear hk); (try clear hi); (try clear ho0)) | ((with_reducible refine gate_callee (f := 61) rfl ?_); refine gla_ (some 73) Try.func61 #[.slice A3 l3.length c3] ?_; (with_reducible refine (num_Of.calls kj41 _ _ l3 t1027 t1028 t1029 _ ?side1 ?side2 A66.out).mono ?_); (case side1 => repeat (first | exact (Kd.C_below HR3.out HB.out) | (with_reducible refine Kd.C_alloc ?_ _) | (with_reducible refine Kd.C_drewN ?_ _) | (with_reducible refine Kd.C_drew ?_))); (case side2 => exact HC3.out); rintro e w131 ⟨rfl, hb⟩; refine ⟨_, rfl, ?_⟩; replace HO1021 := Aside0.mk (Kd.R_below (by (with_reducible repeat (first | apply Kd.R_alloc | apply Kd.R_drewN | apply Kd.R_drew)); exact HO1021.out) hb); replace HO1025 := Aside0.mk (Kd.R_below (by (with_reducible repeat (first | apply Kd.R_alloc | apply Kd.R_drewN | apply Kd.R_drew)); exact HO1025.out) hb); replace BK1002 := bkb_ BK1002 hb; replace BK1003 := bkb_ BK1003 hb; replace BK1008 := bkb_ BK1008 hb; replace BK1012 := bkb_ BK1012 hb; replace HB := bws_ HB hb; (try clear hb); (try clear hb2); (try clear hk); (try clear hi); have hnb132 := NB1008_1003.out; have hnc132 := NB1003_1008.out; have hnb133 := NB1008_1012.out; have hnc133 := NB1012_1008.out; obtain ⟨hcz134_0, hcz134_1, hfz134_0, hfz134_1⟩ := bc2_ BK1008) | ((with_reducible refine gate_callee (f := 66) rfl ?_); refine gla_ (some 78) Try.func66 #[.slice A3 l3.length c3] ?_; (with_reducible refine (withyref01_Of.calls kj41 _ _ l3 t1030 t1031 t1032 _ ?side1 ?side2 A67.out).mono ?_); (case side1 => exact Kd.C_below HR3.out (bw_ HB)); (case side2 => exact HC3.out); rintro e w135 ⟨rfl, hb⟩; refine ⟨_, rfl, ?_⟩; replace HO1021 := Aside0.mk (Kd.R_below (by (with_reducible repeat (first | apply Kd.R_alloc | apply Kd.R_drewN | apply Kd.R_drew)); exact (Kd.R_mono (Kd.R_far (p := ⟨gb1008, 1, none⟩) (Kd.R_far (p := ⟨gb1008, 0, none⟩) (Kd.R_types HO1021.out BK1008.out (by decide)) (fun _ hk => hk.2) (.int .i64 t1027)) (fun _ hk => hk.2) (.int .i64 t1028)) (fun _ h_ => h_.1))) hb); replace HO1025 := Aside0.mk (Kd.R_below (by (with_reducible repeat (first | apply Kd.R_alloc | apply Kd.R_drewN | apply Kd.R_drew)); exact (Kd.R_mono (Kd.R_far (p := ⟨gb1008, 1, none⟩) (Kd.R_far (p := ⟨gb1008, 0, none⟩) (Kd.R_types HO1025.out BK1008.out (by decide)) (fun _ hk => hk.2) (.int .i64 t1027)) (fun _ hk => hk.2) (.int .i64 t1028)) (fun _ h_ => h_.1))) hb); replace BK1002 := Aside0.mk (blk_below (g := gb1002) (o := .cells #[.int .i64 a0_0, .int .i64 a0_1] 23 (0, 0)) (by refine bf_ ?_ NB1002_1008; refine bf_ ?_ NB1002_1008; exact bk_ BK1002) hb); replace BK1003 := Aside0.mk (blk_below (g := gb1003) (o := .cells #[.int .i64 a1_0, .int .i64 a1_1] 23 (0, 0)) (by refine bf_ ?_ NB1003_1008; refine bf_ ?_ NB1003_1008; exact bk_ BK1003) hb); replace BK1008 := Aside0.mk (blk_below (g := gb1008) (o := .cells #[.int .i64 t1027, .int .i64 t1028] 23 (0, 0)) (by refine bp_ (cs := #[.int .i64 t1027, .int .i64 t1014]) ?_ 1; refine bp_ (cs := #[.int .i64 t1013, .int .i64 t1014]) ?_ 0; exact bk_ BK1008) hb); replace BK1012 := Aside0.mk (blk_below (g := gb1012) (o := .cells #[.int .i64 t1016, .int .i64 t1017] 23 (0, 0)) (by refine bf_ ?_ NB1012_1008; refine bf_ ?_ NB1012_1008; exact bk_ BK1012) hb); replace HB := bws_ HB hb; (try clear hb); (try clear hb2); (try clear hk); (try clear hi); have hnb136 := NB1012_1003.out; have hnc136 := NB1003_1012.out; obtain ⟨hcz137_0, hcz137_1, hfz137_0, hfz137_1⟩ := bc2_ BK1012; obtain ⟨hcz138_0, hcz138_1, hfz138_0, hfz138_1⟩ := bc2_ BK1008))
                  go_ret
                  exact ⟨by first | rfl | (simp [*] <;> rfl), bw_ HB⟩
              · rw [if_neg c68] at H
                have c68b0 : (t1029 == t1032) = false := beq_eq_false_iff_ne.mpr c68
                have c68b1 : (t1029 != t1032) = true := bne_iff_ne.mpr c68
                obtain rfl := Option.some.inj H
                have hnb139 := NB1002_1003.out
                have hnc139 := NB1003_1002.out
                have hnb140 := NB1002_1008.out
                have hnc140 := NB1008_1002.out
                have hnb141 := NB1002_1012.out
                have hnc141 := NB1012_1002.out
                obtain ⟨hcz142_0, hcz142_1, hfz142_0, hfz142_1⟩ := bc2_ BK1002
                go_wp2_with (first | ((with_reducible refine gate_callee (f := 60) rfl ?_); refine gla_ (some 63) Try.func60 #[.agg #[.int .i64 a0_0, .int .i64 a0_1]] ?_; (with_reducible refine (num_Terms.calls kj41 a0_0 a0_1 t1019 t1022 _ A64.out).mono ?_); rintro e w143 ⟨v1020, rfl, ho0, hb⟩; refine ⟨_, rfl, ?_⟩; have HO1021 := Aside0.mk (Kd.R_lower ho0 (below_size (bw_ HB))); replace BK1002 := bkb_ BK1002 hb; replace BK1003 := bkb_ BK1003 hb; replace BK1008 := bkb_ BK1008 hb; replace BK1012 := bkb_ BK1012 hb; replace HB := bws_ HB hb; (try clear hb); (try clear hb2); (try clear hk); (try clear hi); (try clear ho0); obtain ⟨hcz144_0, hcz144_1, hfz144_0, hfz144_1⟩ := bc2_ BK1002) | ((with_reducible refine gate_callee (f := 65) rfl ?_); refine gla_ (some 68) Try.func65 #[.agg #[.int .i64 a0_0, .int .i64 a0_1]] ?_; (with_reducible refine (withyref01_Terms.calls kj41 a0_0 a0_1 t1023 t1026 _ A65.out).mono ?_); rintro e w145 ⟨v1024, rfl, ho0, hb⟩; refine ⟨_, rfl, ?_⟩; have HO1025 := Aside0.mk (Kd.R_lower (Kd.R_new' ho0 (Kd.R_lt (by (with_reducible repeat (first | apply Kd.R_alloc | apply Kd.R_drewN | apply Kd.R_drew)); exact HO1021.out))) (below_size (bw_ HB))); replace HO1021 := Aside0.mk (Kd.R_elder' (by (with_reducible repeat (first | apply Kd.R_alloc | apply Kd.R_drewN | apply Kd.R_drew)); exact HO1021.out) (Kd.R_base ho0) hb); replace BK1002 := bkb_ BK1002 hb; replace BK1003 := bkb_ BK1003 hb; replace BK1008 := bkb_ BK1008 hb; replace BK1012 := bkb_ BK1012 hb; replace HB := bws_ HB hb; (try clear hb); (try clear hb2); (try clear hk); (try clear hi); (try clear ho0)) | ((with_reducible refine gate_callee (f := 61) rfl ?_); refine gla_ (some 73) Try.func61 #[.slice A3 l3.length c3] ?_; (with_reducible refine (num_Of.calls kj41 _ _ l3 t1027 t1028 t1029 _ ?side1 ?side2 A66.out).mono ?_); (case side1 => repeat (first | exact (Kd.C_below HR3.out HB.out) | (with_reducible refine Kd.C_alloc ?_ _) | (with_reducible refine Kd.C_drewN ?_ _) | (with_reducible refine Kd.C_drew ?_))); (case side2 => exact HC3.out); rintro e w146 ⟨rfl, hb⟩; refine ⟨_, rfl, ?_⟩; replace HO1021 := Aside0.mk (Kd.R_below (by (with_reducible repeat (first | apply Kd.R_alloc | apply Kd.R_drewN | apply Kd.R_drew)); exact HO1021.out) hb); replace HO1025 := Aside0.mk (Kd.R_below (by (with_reducible repeat (first | apply Kd.R_alloc | apply Kd.R_drewN | apply Kd.R_drew)); exact HO1025.out) hb); replace BK1002 := bkb_ BK1002 hb; replace BK1003 := bkb_ BK1003 hb; replace BK1008 := bkb_ BK1008 hb; replace BK1012 := bkb_ BK1012 hb; replace HB := bws_ HB hb; (try clear hb); (try clear hb2); (try clear hk); (try clear hi); have hnb147 := NB1008_1003.out; have hnc147 := NB1003_1008.out; have hnb148 := NB1008_1012.out; have hnc148 := NB1012_1008.out; obtain ⟨hcz149_0, hcz149_1, hfz149_0, hfz149_1⟩ := bc2_ BK1008) | ((with_reducible refine gate_callee (f := 66) rfl ?_); refine gla_ (some 78) Try.func66 #[.slice A3 l3.length c3] ?_; (with_reducible refine (withyref01_Of.calls kj41 _ _ l3 t1030 t1031 t1032 _ ?side1 ?side2 A67.out).mono ?_); (case side1 => exact Kd.C_below HR3.out (bw_ HB)); (case side2 => exact HC3.out); rintro e w150 ⟨rfl, hb⟩; refine ⟨_, rfl, ?_⟩; replace HO1021 := Aside0.mk (Kd.R_below (by (with_reducible repeat (first | apply Kd.R_alloc | apply Kd.R_drewN | apply Kd.R_drew)); exact (Kd.R_mono (Kd.R_far (p := ⟨gb1008, 1, none⟩) (Kd.R_far (p := ⟨gb1008, 0, none⟩) (Kd.R_types HO1021.out BK1008.out (by decide)) (fun _ hk => hk.2) (.int .i64 t1027)) (fun _ hk => hk.2) (.int .i64 t1028)) (fun _ h_ => h_.1))) hb); replace HO1025 := Aside0.mk (Kd.R_below (by (with_reducible repeat (first | apply Kd.R_alloc | apply Kd.R_drewN | apply Kd.R_drew)); exact (Kd.R_mono (Kd.R_far (p := ⟨gb1008, 1, none⟩) (Kd.R_far (p := ⟨gb1008, 0, none⟩) (Kd.R_types HO1025.out BK1008.out (by decide)) (fun _ hk => hk.2) (.int .i64 t1027)) (fun _ hk => hk.2) (.int .i64 t1028)) (fun _ h_ => h_.1))) hb); replace BK1002 := Aside0.mk (blk_below (g := gb1002) (o := .cells #[.int .i64 a0_0, .int .i64 a0_1] 23 (0, 0)) (by refine bf_ ?_ NB1002_1008; refine bf_ ?_ NB1002_1008; exact bk_ BK1002) hb); replace BK1003 := Aside0.mk (blk_below (g := gb1003) (o := .cells #[.int .i64 a1_0, .int .i64 a1_1] 23 (0, 0)) (by refine bf_ ?_ NB1003_1008; refine bf_ ?_ NB1003_1008; exact bk_ BK1003) hb); replace BK1008 := Aside0.mk (blk_below (g := gb1008) (o := .cells #[.int .i64 t1027, .int .i64 t1028] 23 (0, 0)) (by refine bp_ (cs := #[.int .i64 t1027, .int .i64 t1014]) ?_ 1; refine bp_ (cs := #[.int .i64 t1013, .int .i64 t1014]) ?_ 0; exact bk_ BK1008) hb); replace BK1012 := Aside0.mk (blk_below (g := gb1012) (o := .cells #[.int .i64 t1016, .int .i64 t1017] 23 (0, 0)) (by refine bf_ ?_ NB1012_1008; refine bf_ ?_ NB1012_1008; exact bk_ BK1012) hb); replace HB := bws_ HB hb; (try clear hb); (try clear hb2); (try clear hk); (try clear hi); have hnb151 := NB1012_1003.out; have hnc151 := NB1003_1012.out; obtain ⟨hcz152_0, hcz152_1, hfz152_0, hfz152_1⟩ := bc2_ BK1012))
                go_ret
                exact ⟨by first | rfl | (simp [*] <;> rfl), bw_ HB⟩
end Go.Proofs.Ytakcdoahpbeckaa.H
