/- The statement's own function: printed walks of the ways that answer true. -/
import Derived.Test.YtdcdfahhlfeifaaGreatDoorYa
import Derived.Test.YtdcdfahhlfeifaaGreatDoorXc
import Derived.Test.YtdcdfahhlfeifaaGreatDoorYc
import Derived.Test.YtdcdfahhlfeifaaGreatDoorYe
import Derived.Test.YtdcdfahhlfeifaaGreatDoorYf
section
namespace Go.Proofs.YtdcdfahhlfeifaaGreatDoor.Q
open Go.RowKit Go.Proofs.YtdcdfahhlfeifaaGreatDoorW.PrintWords Go.Proofs.YtdcdfahhlfeifaaGreatDoorW.PrintLast Go.Proofs.YtdcdfahhlfeifaaGreatDoorW.PrintMore
attribute [local go_sem] max2_int min2_int max_two min_two max_three min_three max_four min_four   -- for this text's walks alone
set_option linter.unusedVariables false
set_option linter.unusedSimpArgs false
def searchlightlaw23_known.f : Option Bool := some true
theorem searchlightlaw23_known.calls (r : Bool) (w : World) (h : searchlightlaw23_known.f = some r) :
    Calls Tryz.prog 13 #[] w fun e w' => e = .returned (.bool r) ∧ Below w.heap.size w w' := by
  obtain rfl := Option.some.inj h
  exact known_calls w
end Go.Proofs.YtdcdfahhlfeifaaGreatDoor.Q

end
section
namespace Go.Proofs.YtdcdfahhlfeifaaGreatDoor.Q
open Go.RowKit Go.Proofs.YtdcdfahhlfeifaaGreatDoorW.PrintWords Go.Proofs.YtdcdfahhlfeifaaGreatDoorW.PrintLast Go.Proofs.YtdcdfahhlfeifaaGreatDoorW.PrintMore
attribute [local go_sem] max2_int min2_int max_two min_two max_three min_three max_four min_four   -- for this text's walks alone
set_option linter.unusedVariables false
set_option linter.unusedSimpArgs false
def searchlightlaw23_lists.f (k : Nat) (l0 : List (S40)) (a1 : Int) (l2 : List Bool) : Option (Bool) := (watch_Under.f k l0 a1).bind fun bt229 => ((searchlightref23_Under.f k l0 a1).bind fun bt233 => ((watch_Wrong.f l0 l2).bind fun bt237 => ((searchlightref23_Wrong.f k l0 l2).bind fun bt243 => ((watch_Print.f l0).bind fun bt249 => ((searchlightref23_Print.f k l0).bind fun bt251 => ((searchlightref01_SameInts.f k bt229.1 bt233.1).bind fun t253 => (if t253 = true then (if bt229.2 = bt233.2 then (if bt237.1 = bt243.1 then ((searchlightref01_SameInts.f k bt237.2.1 bt243.2.1).bind fun t254 => (if t254 = true then (if (bt237.2.2.1 == bt243.2.2.1) = true then (if bt237.2.2.2 = bt243.2.2.2 then (if bt249.1.toList = bt251.1.toList then (if bt249.2 = bt251.2 then ((searchlightlaw23_known.f).bind fun t255 => (some t255)) else (some false)) else (some false)) else (some false)) else (some false)) else (some false))) else (some false)) else (some false)) else (some false))))))))
set_option maxHeartbeats 8000000 in
set_option maxRecDepth 100000 in
theorem searchlightlaw23_lists.calls (k : Nat) (A0 : Option Addr) (c0 : Nat) (l0 : List (S40)) (a1 : Int) (A2 : Option Addr) (c2 : Nat) (l2 : List Bool) (w : World) (hr0 : Kd.C k40 w A0 l0.length l0) (hc0 : l0.length ≤ c0) (hr2 : Kd.C Kd.bool w A2 l2.length l2) (hc2 : l2.length ≤ c2) (h : searchlightlaw23_lists.f k l0 a1 l2 = some true) (ht : Tab w) :
    Calls Tryz.prog 4 #[.slice A0 l0.length c0, .int .i64 a1, .slice A2 l2.length c2] w fun e w' => e = .returned (.bool true) ∧ Below w.heap.size w w' := by
  have HT := Aside0.mk ht
  clear ht
  have HR0 := Aside0.mk hr0
  have HC0 := Aside0.mk hc0
  clear hr0 hc0
  have HR2 := Aside0.mk hr2
  have HC2 := Aside0.mk hc2
  clear hr2 hc2
  have HB := Aside0.mk (Below.refl w.heap.size w)
  have H : ((watch_Under.f k l0 a1).bind fun bt229 => ((searchlightref23_Under.f k l0 a1).bind fun bt233 => ((watch_Wrong.f l0 l2).bind fun bt237 => ((searchlightref23_Wrong.f k l0 l2).bind fun bt243 => ((watch_Print.f l0).bind fun bt249 => ((searchlightref23_Print.f k l0).bind fun bt251 => ((searchlightref01_SameInts.f k bt229.1 bt233.1).bind fun t253 => (if t253 = true then (if bt229.2 = bt233.2 then (if bt237.1 = bt243.1 then ((searchlightref01_SameInts.f k bt237.2.1 bt243.2.1).bind fun t254 => (if t254 = true then (if (bt237.2.2.1 == bt243.2.2.1) = true then (if bt237.2.2.2 = bt243.2.2.2 then (if bt249.1.toList = bt251.1.toList then (if bt249.2 = bt251.2 then ((searchlightlaw23_known.f).bind fun t255 => (some t255)) else (some false)) else (some false)) else (some false)) else (some false)) else (some false))) else (some false)) else (some false)) else (some false))))))))) = some true := h
  clear h
  replace H := Option.bind_eq_some_iff.mp H
  obtain ⟨⟨t229, t230⟩, A40, H⟩ := H
  replace H : ((searchlightref23_Under.f k l0 a1).bind fun bt233 => ((watch_Wrong.f l0 l2).bind fun bt237 => ((searchlightref23_Wrong.f k l0 l2).bind fun bt243 => ((watch_Print.f l0).bind fun bt249 => ((searchlightref23_Print.f k l0).bind fun bt251 => ((searchlightref01_SameInts.f k t229 bt233.1).bind fun t253 => (if t253 = true then (if t230 = bt233.2 then (if bt237.1 = bt243.1 then ((searchlightref01_SameInts.f k bt237.2.1 bt243.2.1).bind fun t254 => (if t254 = true then (if (bt237.2.2.1 == bt243.2.2.1) = true then (if bt237.2.2.2 = bt243.2.2.2 then (if bt249.1.toList = bt251.1.toList then (if bt249.2 = bt251.2 then ((searchlightlaw23_known.f).bind fun t255 => (some t255)) else (some false)) else (some false)) else (some false)) else (some false)) else (some false))) else (some false)) else (some false)) else (some false)))))))) = some true := H
  have A4 := Aside0.mk A40
  clear A40
  replace H := Option.bind_eq_some_iff.mp H
  obtain ⟨⟨t233, t234⟩, A50, H⟩ := H
  replace H : ((watch_Wrong.f l0 l2).bind fun bt237 => ((searchlightref23_Wrong.f k l0 l2).bind fun bt243 => ((watch_Print.f l0).bind fun bt249 => ((searchlightref23_Print.f k l0).bind fun bt251 => ((searchlightref01_SameInts.f k t229 t233).bind fun t253 => (if t253 = true then (if t230 = t234 then (if bt237.1 = bt243.1 then ((searchlightref01_SameInts.f k bt237.2.1 bt243.2.1).bind fun t254 => (if t254 = true then (if (bt237.2.2.1 == bt243.2.2.1) = true then (if bt237.2.2.2 = bt243.2.2.2 then (if bt249.1.toList = bt251.1.toList then (if bt249.2 = bt251.2 then ((searchlightlaw23_known.f).bind fun t255 => (some t255)) else (some false)) else (some false)) else (some false)) else (some false)) else (some false))) else (some false)) else (some false)) else (some false))))))) = some true := H
  have A5 := Aside0.mk A50
  clear A50
  replace H := Option.bind_eq_some_iff.mp H
  obtain ⟨⟨t237, t238, t239, t240⟩, A60, H⟩ := H
  replace H : ((searchlightref23_Wrong.f k l0 l2).bind fun bt243 => ((watch_Print.f l0).bind fun bt249 => ((searchlightref23_Print.f k l0).bind fun bt251 => ((searchlightref01_SameInts.f k t229 t233).bind fun t253 => (if t253 = true then (if t230 = t234 then (if t237 = bt243.1 then ((searchlightref01_SameInts.f k t238 bt243.2.1).bind fun t254 => (if t254 = true then (if (t239 == bt243.2.2.1) = true then (if t240 = bt243.2.2.2 then (if bt249.1.toList = bt251.1.toList then (if bt249.2 = bt251.2 then ((searchlightlaw23_known.f).bind fun t255 => (some t255)) else (some false)) else (some false)) else (some false)) else (some false)) else (some false))) else (some false)) else (some false)) else (some false)))))) = some true := H
  have A6 := Aside0.mk A60
  clear A60
  replace H := Option.bind_eq_some_iff.mp H
  obtain ⟨⟨t243, t244, t245, t246⟩, A70, H⟩ := H
  replace H : ((watch_Print.f l0).bind fun bt249 => ((searchlightref23_Print.f k l0).bind fun bt251 => ((searchlightref01_SameInts.f k t229 t233).bind fun t253 => (if t253 = true then (if t230 = t234 then (if t237 = t243 then ((searchlightref01_SameInts.f k t238 t244).bind fun t254 => (if t254 = true then (if (t239 == t245) = true then (if t240 = t246 then (if bt249.1.toList = bt251.1.toList then (if bt249.2 = bt251.2 then ((searchlightlaw23_known.f).bind fun t255 => (some t255)) else (some false)) else (some false)) else (some false)) else (some false)) else (some false))) else (some false)) else (some false)) else (some false))))) = some true := H
  have A7 := Aside0.mk A70
  clear A70
  replace H := Option.bind_eq_some_iff.mp H
  obtain ⟨⟨t249, t250⟩, A80, H⟩ := H
  replace H : ((searchlightref23_Print.f k l0).bind fun bt251 => ((searchlightref01_SameInts.f k t229 t233).bind fun t253 => (if t253 = true then (if t230 = t234 then (if t237 = t243 then ((searchlightref01_SameInts.f k t238 t244).bind fun t254 => (if t254 = true then (if (t239 == t245) = true then (if t240 = t246 then (if t249.toList = bt251.1.toList then (if t250 = bt251.2 then ((searchlightlaw23_known.f).bind fun t255 => (some t255)) else (some false)) else (some false)) else (some false)) else (some false)) else (some false))) else (some false)) else (some false)) else (some false)))) = some true := H
  have A8 := Aside0.mk A80
  clear A80
  replace H := Option.bind_eq_some_iff.mp H
  obtain ⟨⟨t251, t252⟩, A90, H⟩ := H
  replace H : ((searchlightref01_SameInts.f k t229 t233).bind fun t253 => (if t253 = true then (if t230 = t234 then (if t237 = t243 then ((searchlightref01_SameInts.f k t238 t244).bind fun t254 => (if t254 = true then (if (t239 == t245) = true then (if t240 = t246 then (if t249.toList = t251.toList then (if t250 = t252 then ((searchlightlaw23_known.f).bind fun t255 => (some t255)) else (some false)) else (some false)) else (some false)) else (some false)) else (some false))) else (some false)) else (some false)) else (some false))) = some true := H
  have A9 := Aside0.mk A90
  clear A90
  replace H := Option.bind_eq_some_iff.mp H
  obtain ⟨t253, A100, H⟩ := H
  replace H : (if t253 = true then (if t230 = t234 then (if t237 = t243 then ((searchlightref01_SameInts.f k t238 t244).bind fun t254 => (if t254 = true then (if (t239 == t245) = true then (if t240 = t246 then (if t249.toList = t251.toList then (if t250 = t252 then ((searchlightlaw23_known.f).bind fun t255 => (some t255)) else (some false)) else (some false)) else (some false)) else (some false)) else (some false))) else (some false)) else (some false)) else (some false)) = some true := H
  have A10 := Aside0.mk A100
  clear A100
  by_cases c11 : t253 = true
  · subst c11
    have H1 : (if t230 = t234 then (if t237 = t243 then ((searchlightref01_SameInts.f k t238 t244).bind fun t254 => (if t254 = true then (if (t239 == t245) = true then (if t240 = t246 then (if t249.toList = t251.toList then (if t250 = t252 then ((searchlightlaw23_known.f).bind fun t255 => (some t255)) else (some false)) else (some false)) else (some false)) else (some false)) else (some false))) else (some false)) else (some false)) = some true := by rw [if_pos rfl] at H; exact H
    clear H
    have H := H1
    clear H1
    by_cases c12 : t230 = t234
    · rw [if_pos c12] at H
      have c12b0 : (t230 == t234) = true := beq_iff_eq.mpr c12
      have c12b1 : (t230 != t234) = false := bne_eq_false_iff_eq.mpr c12
      clear c12
      by_cases c13 : t237 = t243
      · rw [if_pos c13] at H
        have c13b0 : (t237 == t243) = true := beq_iff_eq.mpr c13
        have c13b1 : (t237 != t243) = false := bne_eq_false_iff_eq.mpr c13
        clear c13
        replace H := Option.bind_eq_some_iff.mp H
        obtain ⟨t254, A140, H⟩ := H
        replace H : (if t254 = true then (if (t239 == t245) = true then (if t240 = t246 then (if t249.toList = t251.toList then (if t250 = t252 then ((searchlightlaw23_known.f).bind fun t255 => (some t255)) else (some false)) else (some false)) else (some false)) else (some false)) else (some false)) = some true := H
        have A14 := Aside0.mk A140
        clear A140
        by_cases c15 : t254 = true
        · subst c15
          have H1 : (if (t239 == t245) = true then (if t240 = t246 then (if t249.toList = t251.toList then (if t250 = t252 then ((searchlightlaw23_known.f).bind fun t255 => (some t255)) else (some false)) else (some false)) else (some false)) else (some false)) = some true := by rw [if_pos rfl] at H; exact H
          clear H
          have H := H1
          clear H1
          by_cases c16 : (t239 == t245) = true
          · rw [if_pos c16] at H
            have c16b0 : (t239 == t245) = true := c16
            (try (have c16b1 : decide (t239 = t245) = true := by simpa using c16))
            (try (have c16b2 : (t239 == t245) = true := by simpa using c16))
            clear c16
            by_cases c17 : t240 = t246
            · rw [if_pos c17] at H
              have c17b0 : (t240 == t246) = true := beq_iff_eq.mpr c17
              have c17b1 : (t240 != t246) = false := bne_eq_false_iff_eq.mpr c17
              clear c17
              by_cases c18 : t249.toList = t251.toList
              · rw [if_pos c18] at H
                have c18b0 : (t249.toList == t251.toList) = true := beq_iff_eq.mpr c18
                have c18b1 : (t249.toList != t251.toList) = false := bne_eq_false_iff_eq.mpr c18
                clear c18
                by_cases c19 : t250 = t252
                · rw [if_pos c19] at H
                  have c19b0 : (t250 == t252) = true := beq_iff_eq.mpr c19
                  have c19b1 : (t250 != t252) = false := bne_eq_false_iff_eq.mpr c19
                  clear c19
                  replace H := Option.bind_eq_some_iff.mp H
                  obtain ⟨t255, A200, H⟩ := H
                  replace H : (some t255) = some true := H
                  have A20 := Aside0.mk A200
                  clear A200
                  obtain rfl := Option.some.inj H
                  go_enter Tryz.func4, Tryz.ntmps4
                  go_wp2_with (first | ((with_reducible refine gate_callee (f := 6) rfl ?_); refine goesL_ (some 26) rfl rfl Tryz.func6 (by kernel_rfl) rfl #[.slice A0 l0.length c0, .int .i64 a1] rfl (by (try simp only [List.map_toArray, List.map_cons, List.map_nil]); first | done | rfl | (simp only [List.length_drop, List.length_take]; rfl)) ?_; (with_reducible refine (watch_Under.calls k _ _ l0 a1 t229 t230 _ ?side1 ?side2 A4.out).mono ?_); (case side1 => repeat (first | exact HR0.out | (with_reducible refine Kd.C_alloc ?_ _) | (with_reducible refine Kd.C_drewN ?_ _) | (with_reducible refine Kd.C_drew ?_))); (case side2 => exact HC0.out); rintro e w21 ⟨v231, rfl, ho0, hb⟩; refine ⟨_, rfl, ?_⟩; have n0_ := Aside0.mk (Kd.R_lower ho0 (below_size (by repeat (first | (with_reducible first | exact HB.out | apply below_alloc | apply pw_below_drewN | apply below_drew1) | exact HB.out)))); have n1_ := Aside0.mk (below_step (by repeat (first | (with_reducible first | exact HB.out | apply below_alloc | apply pw_below_drewN | apply below_drew1) | exact HB.out)) hb); clear HB; have HO232 := n0_; have HB := n1_; clear n0_ n1_; (try clear hb); (try clear hb2); (try clear hk); (try clear hi); (try clear ho0)) | ((with_reducible refine gate_callee (f := 7) rfl ?_); refine goesL_ (some 32) rfl rfl Tryz.func7 (by kernel_rfl) rfl #[.slice A0 l0.length c0, .int .i64 a1] rfl (by (try simp only [List.map_toArray, List.map_cons, List.map_nil]); first | done | rfl | (simp only [List.length_drop, List.length_take]; rfl)) ?_; (with_reducible refine (searchlightref23_Under.calls k _ _ l0 a1 t233 t234 _ ?side1 ?side2 A5.out).mono ?_); (case side1 => repeat (first | exact (Kd.C_below HR0.out HB.out) | (with_reducible refine Kd.C_alloc ?_ _) | (with_reducible refine Kd.C_drewN ?_ _) | (with_reducible refine Kd.C_drew ?_))); (case side2 => exact HC0.out); rintro e w22 ⟨v235, rfl, ho0, hb⟩; refine ⟨_, rfl, ?_⟩; have n0_ := Aside0.mk (Kd.R_elder' (by (with_reducible repeat (first | apply Kd.R_alloc | apply Kd.R_drewN | apply Kd.R_drew)); exact HO232.out) (Kd.R_base ho0) hb); have n1_ := Aside0.mk (Kd.R_lower (Kd.R_new' ho0 (Kd.R_lt (by (with_reducible repeat (first | apply Kd.R_alloc | apply Kd.R_drewN | apply Kd.R_drew)); exact HO232.out))) (below_size (by repeat (first | (with_reducible first | exact HB.out | apply below_alloc | apply pw_below_drewN | apply below_drew1) | exact HB.out)))); have n2_ := Aside0.mk (below_step (by repeat (first | (with_reducible first | exact HB.out | apply below_alloc | apply pw_below_drewN | apply below_drew1) | exact HB.out)) hb); clear HO232; clear HB; have HO232 := n0_; have HO236 := n1_; have HB := n2_; clear n0_ n1_ n2_; (try clear hb); (try clear hb2); (try clear hk); (try clear hi); (try clear ho0)) | ((with_reducible refine gate_callee (f := 8) rfl ?_); refine goesL_ (some 38) rfl rfl Tryz.func8 (by kernel_rfl) rfl #[.slice A0 l0.length c0, .slice A2 l2.length c2] rfl (by (try simp only [List.map_toArray, List.map_cons, List.map_nil]); first | done | rfl | (simp only [List.length_drop, List.length_take]; rfl)) ?_; (with_reducible refine (watch_Wrong.calls _ _ l0 _ _ l2 t237 t238 t239 t240 _ ?side1 ?side2 ?side3 ?side4 A6.out).mono ?_); (case side1 => repeat (first | exact (Kd.C_below HR0.out HB.out) | (with_reducible refine Kd.C_alloc ?_ _) | (with_reducible refine Kd.C_drewN ?_ _) | (with_reducible refine Kd.C_drew ?_))); (case side2 => exact HC0.out); (case side3 => repeat (first | exact (Kd.C_below HR2.out HB.out) | (with_reducible refine Kd.C_alloc ?_ _) | (with_reducible refine Kd.C_drewN ?_ _) | (with_reducible refine Kd.C_drew ?_))); (case side4 => exact HC2.out); rintro e w23 ⟨v241, rfl, ho0, hb⟩; refine ⟨_, rfl, ?_⟩; have n0_ := Aside0.mk (Kd.R_elder' (by (with_reducible repeat (first | apply Kd.R_alloc | apply Kd.R_drewN | apply Kd.R_drew)); exact HO232.out) (Kd.R_base ho0) hb); have n1_ := Aside0.mk (Kd.R_elder' (by (with_reducible repeat (first | apply Kd.R_alloc | apply Kd.R_drewN | apply Kd.R_drew)); exact HO236.out) (Kd.R_base ho0) hb); have n2_ := Aside0.mk (Kd.R_lower (Kd.R_new' (Kd.R_new' ho0 (Kd.R_lt (by (with_reducible repeat (first | apply Kd.R_alloc | apply Kd.R_drewN | apply Kd.R_drew)); exact HO232.out))) (Kd.R_lt (by (with_reducible repeat (first | apply Kd.R_alloc | apply Kd.R_drewN | apply Kd.R_drew)); exact HO236.out))) (below_size (by repeat (first | (with_reducible first | exact HB.out | apply below_alloc | apply pw_below_drewN | apply below_drew1) | exact HB.out)))); have n3_ := Aside0.mk (below_step (by repeat (first | (with_reducible first | exact HB.out | apply below_alloc | apply pw_below_drewN | apply below_drew1) | exact HB.out)) hb); clear HO232; clear HO236; clear HB; have HO232 := n0_; have HO236 := n1_; have HO242 := n2_; have HB := n3_; clear n0_ n1_ n2_ n3_; (try clear hb); (try clear hb2); (try clear hk); (try clear hi); (try clear ho0)) | ((with_reducible refine gate_callee (f := 9) rfl ?_); refine goesL_ (some 46) rfl rfl Tryz.func9 (by kernel_rfl) rfl #[.slice A0 l0.length c0, .slice A2 l2.length c2] rfl (by (try simp only [List.map_toArray, List.map_cons, List.map_nil]); first | done | rfl | (simp only [List.length_drop, List.length_take]; rfl)) ?_; (with_reducible refine (searchlightref23_Wrong.calls k _ _ l0 _ _ l2 t243 t244 t245 t246 _ ?side1 ?side2 ?side3 ?side4 A7.out).mono ?_); (case side1 => repeat (first | exact (Kd.C_below HR0.out HB.out) | (with_reducible refine Kd.C_alloc ?_ _) | (with_reducible refine Kd.C_drewN ?_ _) | (with_reducible refine Kd.C_drew ?_))); (case side2 => exact HC0.out); (case side3 => repeat (first | exact (Kd.C_below HR2.out HB.out) | (with_reducible refine Kd.C_alloc ?_ _) | (with_reducible refine Kd.C_drewN ?_ _) | (with_reducible refine Kd.C_drew ?_))); (case side4 => exact HC2.out); rintro e w24 ⟨v247, rfl, ho0, hb⟩; refine ⟨_, rfl, ?_⟩; have n0_ := Aside0.mk (Kd.R_elder' (by (with_reducible repeat (first | apply Kd.R_alloc | apply Kd.R_drewN | apply Kd.R_drew)); exact HO232.out) (Kd.R_base ho0) hb); have n1_ := Aside0.mk (Kd.R_elder' (by (with_reducible repeat (first | apply Kd.R_alloc | apply Kd.R_drewN | apply Kd.R_drew)); exact HO236.out) (Kd.R_base ho0) hb); have n2_ := Aside0.mk (Kd.R_elder' (by (with_reducible repeat (first | apply Kd.R_alloc | apply Kd.R_drewN | apply Kd.R_drew)); exact HO242.out) (Kd.R_base ho0) hb); have n3_ := Aside0.mk (Kd.R_lower (Kd.R_new' (Kd.R_new' (Kd.R_new' ho0 (Kd.R_lt (by (with_reducible repeat (first | apply Kd.R_alloc | apply Kd.R_drewN | apply Kd.R_drew)); exact HO232.out))) (Kd.R_lt (by (with_reducible repeat (first | apply Kd.R_alloc | apply Kd.R_drewN | apply Kd.R_drew)); exact HO236.out))) (Kd.R_lt (by (with_reducible repeat (first | apply Kd.R_alloc | apply Kd.R_drewN | apply Kd.R_drew)); exact HO242.out))) (below_size (by repeat (first | (with_reducible first | exact HB.out | apply below_alloc | apply pw_below_drewN | apply below_drew1) | exact HB.out)))); have n4_ := Aside0.mk (below_step (by repeat (first | (with_reducible first | exact HB.out | apply below_alloc | apply pw_below_drewN | apply below_drew1) | exact HB.out)) hb); clear HO232; clear HO236; clear HO242; clear HB; have HO232 := n0_; have HO236 := n1_; have HO242 := n2_; have HO248 := n3_; have HB := n4_; clear n0_ n1_ n2_ n3_ n4_; (try clear hb); (try clear hb2); (try clear hk); (try clear hi); (try clear ho0)) | ((with_reducible refine gate_callee (f := 10) rfl ?_); refine goesL_ (some 53) rfl rfl Tryz.func10 (by kernel_rfl) rfl #[.slice A0 l0.length c0] rfl (by (try simp only [List.map_toArray, List.map_cons, List.map_nil]); first | done | rfl | (simp only [List.length_drop, List.length_take]; rfl)) ?_; (with_reducible refine (watch_Print.calls _ _ l0 t249 t250 _ ?side1 ?side2 A8.out (Tab.below HT.out (by repeat (first | (with_reducible first | exact HB.out | apply below_alloc | apply pw_below_drewN | apply below_drew1) | exact HB.out)))).mono ?_); (case side1 => repeat (first | exact (Kd.C_below HR0.out HB.out) | (with_reducible refine Kd.C_alloc ?_ _) | (with_reducible refine Kd.C_drewN ?_ _) | (with_reducible refine Kd.C_drew ?_))); (case side2 => exact HC0.out); rintro e w25 ⟨rfl, hb⟩; refine ⟨_, rfl, ?_⟩; have n0_ := Aside0.mk (Kd.R_below (by (with_reducible repeat (first | apply Kd.R_alloc | apply Kd.R_drewN | apply Kd.R_drew)); exact HO232.out) hb); have n1_ := Aside0.mk (Kd.R_below (by (with_reducible repeat (first | apply Kd.R_alloc | apply Kd.R_drewN | apply Kd.R_drew)); exact HO236.out) hb); have n2_ := Aside0.mk (Kd.R_below (by (with_reducible repeat (first | apply Kd.R_alloc | apply Kd.R_drewN | apply Kd.R_drew)); exact HO242.out) hb); have n3_ := Aside0.mk (Kd.R_below (by (with_reducible repeat (first | apply Kd.R_alloc | apply Kd.R_drewN | apply Kd.R_drew)); exact HO248.out) hb); have n4_ := Aside0.mk (below_step (by repeat (first | (with_reducible first | exact HB.out | apply below_alloc | apply pw_below_drewN | apply below_drew1) | exact HB.out)) hb); clear HO232; clear HO236; clear HO242; clear HO248; clear HB; have HO232 := n0_; have HO236 := n1_; have HO242 := n2_; have HO248 := n3_; have HB := n4_; clear n0_ n1_ n2_ n3_ n4_; (try clear hb); (try clear hb2); (try clear hk); (try clear hi)) | ((with_reducible refine gate_callee (f := 11) rfl ?_); refine goesL_ (some 58) rfl rfl Tryz.func11 (by kernel_rfl) rfl #[.slice A0 l0.length c0] rfl (by (try simp only [List.map_toArray, List.map_cons, List.map_nil]); first | done | rfl | (simp only [List.length_drop, List.length_take]; rfl)) ?_; (with_reducible refine (searchlightref23_Print.calls k _ _ l0 t251 t252 _ ?side1 ?side2 A9.out (Tab.below HT.out (by repeat (first | (with_reducible first | exact HB.out | apply below_alloc | apply pw_below_drewN | apply below_drew1) | exact HB.out)))).mono ?_); (case side1 => repeat (first | exact (Kd.C_below HR0.out HB.out) | (with_reducible refine Kd.C_alloc ?_ _) | (with_reducible refine Kd.C_drewN ?_ _) | (with_reducible refine Kd.C_drew ?_))); (case side2 => exact HC0.out); rintro e w26 ⟨rfl, hb⟩; refine ⟨_, rfl, ?_⟩; have n0_ := Aside0.mk (Kd.R_below (by (with_reducible repeat (first | apply Kd.R_alloc | apply Kd.R_drewN | apply Kd.R_drew)); exact HO232.out) hb); have n1_ := Aside0.mk (Kd.R_below (by (with_reducible repeat (first | apply Kd.R_alloc | apply Kd.R_drewN | apply Kd.R_drew)); exact HO236.out) hb); have n2_ := Aside0.mk (Kd.R_below (by (with_reducible repeat (first | apply Kd.R_alloc | apply Kd.R_drewN | apply Kd.R_drew)); exact HO242.out) hb); have n3_ := Aside0.mk (Kd.R_below (by (with_reducible repeat (first | apply Kd.R_alloc | apply Kd.R_drewN | apply Kd.R_drew)); exact HO248.out) hb); have n4_ := Aside0.mk (below_step (by repeat (first | (with_reducible first | exact HB.out | apply below_alloc | apply pw_below_drewN | apply below_drew1) | exact HB.out)) hb); clear HO232; clear HO236; clear HO242; clear HO248; clear HB; have HO232 := n0_; have HO236 := n1_; have HO242 := n2_; have HO248 := n3_; have HB := n4_; clear n0_ n1_ n2_ n3_ n4_; (try clear hb); (try clear hb2); (try clear hk); (try clear hi); obtain ⟨Ao27, co27, eo27⟩ := Kd.R_slice HO232.out; subst eo27; obtain ⟨Ao28, co28, eo28⟩ := Kd.R_slice HO236.out; subst eo28) | ((with_reducible refine gate_callee (f := 12) rfl ?_); refine goesL_ (some 63) rfl rfl Tryz.func12 (by kernel_rfl) rfl #[.slice Ao27 t229.length co27, .slice Ao28 t233.length co28] rfl (by (try simp only [List.map_toArray, List.map_cons, List.map_nil]); first | done | rfl | (simp only [List.length_drop, List.length_take]; rfl)) ?_; (with_reducible refine (searchlightref01_SameInts.calls k _ _ t229 _ _ t233 true _ ?side1 ?side2 ?side3 ?side4 A10.out).mono ?_); (case side1 => repeat (first | exact (Kd.R_reads' HO232.out).2.2 | (with_reducible refine Kd.C_alloc ?_ _) | (with_reducible refine Kd.C_drewN ?_ _) | (with_reducible refine Kd.C_drew ?_))); (case side2 => exact (Kd.R_reads' HO232.out).2.1); (case side3 => repeat (first | exact (Kd.R_reads' HO236.out).2.2 | (with_reducible refine Kd.C_alloc ?_ _) | (with_reducible refine Kd.C_drewN ?_ _) | (with_reducible refine Kd.C_drew ?_))); (case side4 => exact (Kd.R_reads' HO236.out).2.1); rintro e w' ⟨rfl, ⟨nd, rfl⟩⟩; refine ⟨_, rfl, ?_⟩; obtain ⟨Ao29, co29, eo29⟩ := Kd.R_slice HO242.out; subst eo29; obtain ⟨Ao30, co30, eo30⟩ := Kd.R_slice HO248.out; subst eo30) | (go_at_call 12; (with_reducible refine (searchlightref01_SameInts.calls k _ _ t238 _ _ t244 true _ ?side1 ?side2 ?side3 ?side4 A14.out).mono ?_); (case side1 => repeat (first | exact (Kd.R_reads' HO242.out).2.2 | (with_reducible refine Kd.C_alloc ?_ _) | (with_reducible refine Kd.C_drewN ?_ _) | (with_reducible refine Kd.C_drew ?_))); (case side2 => exact (Kd.R_reads' HO242.out).2.1); (case side3 => repeat (first | exact (Kd.R_reads' HO248.out).2.2 | (with_reducible refine Kd.C_alloc ?_ _) | (with_reducible refine Kd.C_drewN ?_ _) | (with_reducible refine Kd.C_drew ?_))); (case side4 => exact (Kd.R_reads' HO248.out).2.1); rintro e w' ⟨rfl, ⟨nd, rfl⟩⟩) | (go_at_call 13; (with_reducible refine (searchlightlaw23_known.calls  true _ A20.out).mono ?_); rintro e w31 ⟨rfl, hb⟩; have n0_ := Aside0.mk (Kd.R_below (by (with_reducible repeat (first | apply Kd.R_alloc | apply Kd.R_drewN | apply Kd.R_drew)); exact HO232.out) hb); have n1_ := Aside0.mk (Kd.R_below (by (with_reducible repeat (first | apply Kd.R_alloc | apply Kd.R_drewN | apply Kd.R_drew)); exact HO236.out) hb); have n2_ := Aside0.mk (Kd.R_below (by (with_reducible repeat (first | apply Kd.R_alloc | apply Kd.R_drewN | apply Kd.R_drew)); exact HO242.out) hb); have n3_ := Aside0.mk (Kd.R_below (by (with_reducible repeat (first | apply Kd.R_alloc | apply Kd.R_drewN | apply Kd.R_drew)); exact HO248.out) hb); have n4_ := Aside0.mk (below_step (by repeat (first | (with_reducible first | exact HB.out | apply below_alloc | apply pw_below_drewN | apply below_drew1) | exact HB.out)) hb); clear HO232; clear HO236; clear HO242; clear HO248; clear HB; have HO232 := n0_; have HO236 := n1_; have HO242 := n2_; have HO248 := n3_; have HB := n4_; clear n0_ n1_ n2_ n3_ n4_; (try clear hb); (try clear hb2); (try clear hk); (try clear hi)))
                  go_ret
                  exact ⟨by first | rfl | (simp [errW_none, errW_some] <;> rfl) | (simp [*, errW_none, errW_some] <;> rfl), by repeat (first | (with_reducible first | exact HB.out | apply below_alloc | apply pw_below_drewN | apply below_drew1) | exact HB.out)⟩
                · rw [if_neg c19] at H
                  have c19b0 : (t250 == t252) = false := beq_eq_false_iff_ne.mpr c19
                  have c19b1 : (t250 != t252) = true := bne_iff_ne.mpr c19
                  exact absurd H (by simp)
              · rw [if_neg c18] at H
                have c18b0 : (t249.toList == t251.toList) = false := beq_eq_false_iff_ne.mpr c18
                have c18b1 : (t249.toList != t251.toList) = true := bne_iff_ne.mpr c18
                exact absurd H (by simp)
            · rw [if_neg c17] at H
              have c17b0 : (t240 == t246) = false := beq_eq_false_iff_ne.mpr c17
              have c17b1 : (t240 != t246) = true := bne_iff_ne.mpr c17
              exact absurd H (by simp)
          · rw [if_neg c16] at H
            have c16b0 : (t239 == t245) = false := by simpa using c16
            (try (have c16b1 : decide (t239 = t245) = false := by simpa using c16))
            (try (have c16b2 : (t239 == t245) = false := by simpa using c16))
            (try (have c16b3 : ¬ (t239 = t245) := by simpa using c16))
            clear c16
            exact absurd H (by simp)
        · replace c15 := Bool.eq_false_iff.mpr c15
          subst c15
          have H1 : (some false) = some true := by rw [if_neg (show ¬ (false = true) by decide)] at H; exact H
          clear H
          have H := H1
          clear H1
          exact absurd H (by simp)
      · rw [if_neg c13] at H
        have c13b0 : (t237 == t243) = false := beq_eq_false_iff_ne.mpr c13
        have c13b1 : (t237 != t243) = true := bne_iff_ne.mpr c13
        exact absurd H (by simp)
    · rw [if_neg c12] at H
      have c12b0 : (t230 == t234) = false := beq_eq_false_iff_ne.mpr c12
      have c12b1 : (t230 != t234) = true := bne_iff_ne.mpr c12
      exact absurd H (by simp)
  · replace c11 := Bool.eq_false_iff.mpr c11
    subst c11
    have H1 : (some false) = some true := by rw [if_neg (show ¬ (false = true) by decide)] at H; exact H
    clear H
    have H := H1
    clear H1
    exact absurd H (by simp)
end Go.Proofs.YtdcdfahhlfeifaaGreatDoor.Q

end
section
namespace Go.Proofs.YtdcdfahhlfeifaaGreatDoor.Q
open Go.RowKit Go.Proofs.YtdcdfahhlfeifaaGreatDoorW.PrintWords Go.Proofs.YtdcdfahhlfeifaaGreatDoorW.PrintLast Go.Proofs.YtdcdfahhlfeifaaGreatDoorW.PrintMore
attribute [local go_sem] max2_int min2_int max_two min_two max_three min_three max_four min_four   -- for this text's walks alone
set_option linter.unusedVariables false
set_option linter.unusedSimpArgs false
mutual
def searchlightlaw23_wrong.j2 : Nat → List (S40) → List Bool → Int → Bool → Option (Bool)
  | 0, _, _, _, _ => none
  | k + 1, x0, x1, x5, x70 => if x70 = true then (some false) else ((watch_Under.f k x0 x5).bind fun bt272 => (if bt272.2 = 0 then (searchlightlaw23_wrong.l1 k x0 x1 x5 bt272.1 0) else (some false)))
def searchlightlaw23_wrong.l1 : Nat → List (S40) → List Bool → Int → List Int → Int → Option (Bool)
  | 0, _, _, _, _, _ => none
  | k + 1, x0, x1, x5, x12, x14 => if x14 < (x12.length : Int) then (if 0 ≤ x14 then (if 0 ≤ (rd x12 x14) then (if (rd x12 x14) < (x1.length : Int) then (if rdOf false x1 (rd x12 x14) = true then (some false) else (searchlightlaw23_wrong.l1 k x0 x1 x5 x12 (wrap64 (x14 + 1)))) else (none)) else (none)) else (none)) else (searchlightlaw23_wrong.l2 k x0 x1 x5)
def searchlightlaw23_wrong.l2 : Nat → List (S40) → List Bool → Int → Option (Bool)
  | 0, _, _, _ => none
  | k + 1, x0, x1, x15 => if x15 ≥ 0 then (if 0 ≤ x15 then (if x15 < (x1.length : Int) then (if rdOf false x1 x15 = true then (if x15 < (x0.length : Int) then (searchlightlaw23_wrong.l2 k x0 x1 ((rd_T40 x0 x15).f3)) else (none)) else (some false)) else (none)) else (none)) else ((searchlightlaw23_known.f).bind fun t280 => (some t280))
def searchlightlaw23_wrong.j0 : Nat → List Bool → List Int → Bool → Option (Bool)
  | 0, _, _, _ => none
  | k + 1, x1, x9, x41 => if x41 = true then (some false) else (searchlightlaw23_wrong.l0 k x1 x9 0)
def searchlightlaw23_wrong.l0 : Nat → List Bool → List Int → Int → Option (Bool)
  | 0, _, _, _ => none
  | k + 1, x1, x9, x11 => if x11 < (x9.length : Int) then (if 0 ≤ x11 then (if 0 ≤ (rd x9 x11) then (if (rd x9 x11) < (x1.length : Int) then (if rdOf false x1 (rd x9 x11) = true then (some false) else (searchlightlaw23_wrong.l0 k x1 x9 (wrap64 (x11 + 1)))) else (none)) else (none)) else (none)) else ((searchlightlaw23_known.f).bind fun t270 => (some t270))
end
def searchlightlaw23_wrong.f (k : Nat) (l0 : List (S40)) (l1 : List Bool) : Option (Bool) := (watch_Wrong.f l0 l1).bind fun bt256 => (if bt256.2.2.2 = 0 then (if bt256.2.2.1 = true then (if bt256.1 < 0 then (searchlightlaw23_wrong.j2 k l0 l1 bt256.1 true) else (if bt256.1 ≥ (l0.length : Int) then (searchlightlaw23_wrong.j2 k l0 l1 bt256.1 true) else (if 0 ≤ bt256.1 then (if bt256.1 < (l1.length : Int) then (searchlightlaw23_wrong.j2 k l0 l1 bt256.1 (!(rdOf false l1 bt256.1))) else (none)) else (none)))) else ((watch_Under.f k l0 (-1)).bind fun bt263 => (if bt263.2 = 0 then ((searchlightref01_SameInts.f k bt256.2.1 bt263.1).bind fun t267 => (searchlightlaw23_wrong.j0 k l1 bt263.1 (!t267))) else (searchlightlaw23_wrong.j0 k l1 bt263.1 true)))) else ((searchlightlaw23_known.f).bind fun t262 => (some t262)))
set_option maxHeartbeats 8000000 in
set_option maxRecDepth 100000 in
theorem searchlightlaw23_wrong.calls (k : Nat) (A0 : Option Addr) (c0 : Nat) (l0 : List (S40)) (A1 : Option Addr) (c1 : Nat) (l1 : List Bool) (w : World) (hr0 : Kd.C k40 w A0 l0.length l0) (hc0 : l0.length ≤ c0) (hr1 : Kd.C Kd.bool w A1 l1.length l1) (hc1 : l1.length ≤ c1) (h : searchlightlaw23_wrong.f k l0 l1 = some true) :
    Calls Tryz.prog 5 #[.slice A0 l0.length c0, .slice A1 l1.length c1] w fun e w' => e = .returned (.bool true) ∧ Below w.heap.size w w' := by
  have HR0 := Aside0.mk hr0
  have HC0 := Aside0.mk hc0
  clear hr0 hc0
  have HR1 := Aside0.mk hr1
  have HC1 := Aside0.mk hc1
  clear hr1 hc1
  have HB := Aside0.mk (Below.refl w.heap.size w)
  have H : ((watch_Wrong.f l0 l1).bind fun bt256 => (if bt256.2.2.2 = 0 then (if bt256.2.2.1 = true then (if bt256.1 < 0 then (searchlightlaw23_wrong.j2 k l0 l1 bt256.1 true) else (if bt256.1 ≥ (l0.length : Int) then (searchlightlaw23_wrong.j2 k l0 l1 bt256.1 true) else (if 0 ≤ bt256.1 then (if bt256.1 < (l1.length : Int) then (searchlightlaw23_wrong.j2 k l0 l1 bt256.1 (!(rdOf false l1 bt256.1))) else (none)) else (none)))) else ((watch_Under.f k l0 (-1)).bind fun bt263 => (if bt263.2 = 0 then ((searchlightref01_SameInts.f k bt256.2.1 bt263.1).bind fun t267 => (searchlightlaw23_wrong.j0 k l1 bt263.1 (!t267))) else (searchlightlaw23_wrong.j0 k l1 bt263.1 true)))) else ((searchlightlaw23_known.f).bind fun t262 => (some t262)))) = some true := h
  clear h
  replace H := Option.bind_eq_some_iff.mp H
  obtain ⟨⟨t256, t257, t258, t259⟩, A30, H⟩ := H
  replace H : (if t259 = 0 then (if t258 = true then (if t256 < 0 then (searchlightlaw23_wrong.j2 k l0 l1 t256 true) else (if t256 ≥ (l0.length : Int) then (searchlightlaw23_wrong.j2 k l0 l1 t256 true) else (if 0 ≤ t256 then (if t256 < (l1.length : Int) then (searchlightlaw23_wrong.j2 k l0 l1 t256 (!(rdOf false l1 t256))) else (none)) else (none)))) else ((watch_Under.f k l0 (-1)).bind fun bt263 => (if bt263.2 = 0 then ((searchlightref01_SameInts.f k t257 bt263.1).bind fun t267 => (searchlightlaw23_wrong.j0 k l1 bt263.1 (!t267))) else (searchlightlaw23_wrong.j0 k l1 bt263.1 true)))) else ((searchlightlaw23_known.f).bind fun t262 => (some t262))) = some true := H
  have A3 := Aside0.mk A30
  clear A30
  by_cases c4 : t259 = 0
  · rw [if_pos c4] at H
    have c4b0 : (t259 == 0) = true := beq_iff_eq.mpr c4
    have c4b1 : (t259 != 0) = false := bne_eq_false_iff_eq.mpr c4
    clear c4
    by_cases c5 : t258 = true
    · subst c5
      have H1 : (if t256 < 0 then (searchlightlaw23_wrong.j2 k l0 l1 t256 true) else (if t256 ≥ (l0.length : Int) then (searchlightlaw23_wrong.j2 k l0 l1 t256 true) else (if 0 ≤ t256 then (if t256 < (l1.length : Int) then (searchlightlaw23_wrong.j2 k l0 l1 t256 (!(rdOf false l1 t256))) else (none)) else (none)))) = some true := by rw [if_pos rfl] at H; exact H
      clear H
      have H := H1
      clear H1
      have HC6 := Aside0.mk H
      clear H
      go_enter Tryz.func5, Tryz.ntmps5
      go_upto_region 14 with (first | ((with_reducible refine gate_callee (f := 8) rfl ?_); refine goesL_ (some 19) rfl rfl Tryz.func8 (by kernel_rfl) rfl #[.slice A0 l0.length c0, .slice A1 l1.length c1] rfl (by (try simp only [List.map_toArray, List.map_cons, List.map_nil]); first | done | rfl | (simp only [List.length_drop, List.length_take]; rfl)) ?_; (with_reducible refine (watch_Wrong.calls _ _ l0 _ _ l1 t256 t257 true t259 _ ?side1 ?side2 ?side3 ?side4 A3.out).mono ?_); (case side1 => repeat (first | exact HR0.out | (with_reducible refine Kd.C_alloc ?_ _) | (with_reducible refine Kd.C_drewN ?_ _) | (with_reducible refine Kd.C_drew ?_))); (case side2 => exact HC0.out); (case side3 => repeat (first | exact HR1.out | (with_reducible refine Kd.C_alloc ?_ _) | (with_reducible refine Kd.C_drewN ?_ _) | (with_reducible refine Kd.C_drew ?_))); (case side4 => exact HC1.out); rintro e w7 ⟨v260, rfl, ho0, hb⟩; refine ⟨_, rfl, ?_⟩; have n0_ := Aside0.mk (Kd.R_lower ho0 (below_size (by repeat (first | (with_reducible first | exact HB.out | apply below_alloc | apply pw_below_drewN | apply below_drew1) | exact HB.out)))); have n1_ := Aside0.mk (below_step (by repeat (first | (with_reducible first | exact HB.out | apply below_alloc | apply pw_below_drewN | apply below_drew1) | exact HB.out)) hb); clear HB; have HO261 := n0_; have HB := n1_; clear n0_ n1_; (try clear hb); (try clear hb2); (try clear hk); (try clear hi); (try clear ho0)))
      (try simp only [Act.put, List.setIfInBounds_toArray, List.set_cons_zero, List.set_cons_succ])
      go_cut [70] (fun v70 wc => ∃ (kq : Nat) (x70_5 : Bool), v70 = .bool x70_5 ∧ Aside0 (searchlightlaw23_wrong.j2 kq l0 l1 t256 x70_5 = some true) ∧ Aside0 (kq ≤ k) ∧ Aside0 (Below w.heap.size w wc))
      case first =>
        have H := HC6.out
        clear HC6
        by_cases c8 : t256 < 0
        · rw [if_pos c8] at H
          have c8b0 : decide (t256 < 0) = true := decide_eq_true c8
          clear c8
          (first | rw [c8b0] | (simp only [i64_w, i32_w]; rw [c8b0]) | skip)
          have H' := Aside0.mk H
          clear H
          go_wp2
          go_meet
          case rel => exact ⟨_, (true), (by first | rfl | (simp; done) | (simp [*]; done)), H', ⟨by first | omega | exact Nat.le_refl _⟩, ⟨by repeat (first | (with_reducible first | exact HB.out | apply below_alloc | apply pw_below_drewN | apply below_drew1) | exact HB.out)⟩⟩
        · rw [if_neg c8] at H
          have c8b0 : decide (t256 < 0) = false := decide_eq_false c8
          clear c8
          (first | rw [c8b0] | (simp only [i64_w, i32_w]; rw [c8b0]) | skip)
          by_cases c9 : t256 ≥ (l0.length : Int)
          · rw [if_pos c9] at H
            have c9b0 : decide ((l0.length : Int) ≤ t256) = true := decide_eq_true c9
            clear c9
            have H' := Aside0.mk H
            clear H
            go_wp2
            go_meet
            case rel => exact ⟨_, (true), (by first | rfl | (simp; done) | (simp [*]; done)), H', ⟨by first | omega | exact Nat.le_refl _⟩, ⟨by repeat (first | (with_reducible first | exact HB.out | apply below_alloc | apply pw_below_drewN | apply below_drew1) | exact HB.out)⟩⟩
          · rw [if_neg c9] at H
            have c9b0 : decide ((l0.length : Int) ≤ t256) = false := decide_eq_false c9
            clear c9
            by_cases c10 : 0 ≤ t256
            · rw [if_pos c10] at H
              have c10b0 : decide (0 ≤ t256) = true := decide_eq_true c10
              clear c10
              by_cases c11 : t256 < (l1.length : Int)
              · rw [if_pos c11] at H
                have c11b0 : decide (t256 < (l1.length : Int)) = true := decide_eq_true c11
                clear c11
                have H' := Aside0.mk H
                clear H
                have p271 : 0 ≤ (t256 : Int) := of_decide_eq_true (by first | (with_reducible assumption) | assumption)
                have q271 : t256 < (l1.length : Int) := of_decide_eq_true (by first | (with_reducible assumption) | assumption)
                obtain ⟨ad271, e271, hx271_0⟩ := Kd.at_bool HR1.out t256 p271 q271
                cases e271
                replace hx271_0 := (HB.out.cell (World.block_lt_of_cell? w _ hx271_0)).trans hx271_0
                replace p271 := eq_true p271
                replace q271 := eq_true q271
                go_wp2
                go_meet
                case rel => exact ⟨_, (!(rdOf false l1 t256)), (by first | rfl | (simp; done) | (simp [*]; done)), H', ⟨by first | omega | exact Nat.le_refl _⟩, ⟨by repeat (first | (with_reducible first | exact HB.out | apply below_alloc | apply pw_below_drewN | apply below_drew1) | exact HB.out)⟩⟩
              · rw [if_neg c11] at H
                exact absurd H (by simp)
            · rw [if_neg c10] at H
              exact absurd H (by simp)
      case rest =>
        clear HC6
        try clear c1
        try clear p2
        try clear q2
        try clear hx2
        try clear c4
        try clear c4b0
        try clear c4b1
        try clear c5
        try clear c8
        try clear c8b0
        try clear c9
        try clear c9b0
        try clear c10
        try clear c10b0
        try clear c11
        try clear c11b0
        try clear hx271_0
        try clear p271
        try clear q271
        obtain ⟨kq, x70_5, rfl, HA, HJ5, HB⟩ := hcut
        cases kq with
        | zero => exact absurd HA.out (by simp [searchlightlaw23_wrong.j2])
        | succ kj5 =>
          have H := HA.out
          clear HA
          simp only [searchlightlaw23_wrong.j2] at H
          by_cases c12 : x70_5 = true
          · subst c12
            have H1 : (some false) = some true := by rw [if_pos rfl] at H; exact H
            clear H
            have H := H1
            clear H1
            exact absurd H (by simp)
          · replace c12 := Bool.eq_false_iff.mpr c12
            subst c12
            have H1 : ((watch_Under.f kj5 l0 t256).bind fun bt272 => (if bt272.2 = 0 then (searchlightlaw23_wrong.l1 kj5 l0 l1 t256 bt272.1 0) else (some false))) = some true := by rw [if_neg (show ¬ (false = true) by decide)] at H; exact H
            clear H
            have H := H1
            clear H1
            replace H := Option.bind_eq_some_iff.mp H
            obtain ⟨⟨t272, t273⟩, A130, H⟩ := H
            replace H : (if t273 = 0 then (searchlightlaw23_wrong.l1 kj5 l0 l1 t256 t272 0) else (some false)) = some true := H
            have A13 := Aside0.mk A130
            clear A130
            by_cases c14 : t273 = 0
            · rw [if_pos c14] at H
              have c14b0 : (t273 == 0) = true := beq_iff_eq.mpr c14
              have c14b1 : (t273 != 0) = false := bne_eq_false_iff_eq.mpr c14
              clear c14
              have H' := Aside0.mk H
              clear H
              go_wp2_with (first | ((with_reducible refine gate_callee (f := 6) rfl ?_); refine goesL_ (some 74) rfl rfl Tryz.func6 (by kernel_rfl) rfl #[.slice A0 l0.length c0, .int .i64 t256] rfl (by (try simp only [List.map_toArray, List.map_cons, List.map_nil]); first | done | rfl | (simp only [List.length_drop, List.length_take]; rfl)) ?_; (with_reducible refine (watch_Under.calls kj5 _ _ l0 t256 t272 t273 _ ?side1 ?side2 A13.out).mono ?_); (case side1 => repeat (first | exact (Kd.C_below HR0.out HB.out) | (with_reducible refine Kd.C_alloc ?_ _) | (with_reducible refine Kd.C_drewN ?_ _) | (with_reducible refine Kd.C_drew ?_))); (case side2 => exact HC0.out); rintro e w15 ⟨v274, rfl, ho0, hb⟩; refine ⟨_, rfl, ?_⟩; have n0_ := Aside0.mk (Kd.R_lower ho0 (below_size (by repeat (first | (with_reducible first | exact HB.out | apply below_alloc | apply pw_below_drewN | apply below_drew1) | exact HB.out)))); have n1_ := Aside0.mk (below_step (by repeat (first | (with_reducible first | exact HB.out | apply below_alloc | apply pw_below_drewN | apply below_drew1) | exact HB.out)) hb); clear HB; have HO275 := n0_; have HB := n1_; clear n0_ n1_; (try clear hb); (try clear hb2); (try clear hk); (try clear hi); (try clear ho0)))
              go_loopg [14] kj5 (fun kq v14 w' => ∃ (x14_2 : Int), v14 = .int .i64 x14_2 ∧ Aside0 (searchlightlaw23_wrong.l1 kq l0 l1 t256 t272 x14_2 = some true) ∧ Aside0 (kq ≤ kj5) ∧ Aside0 (Kd.R (Kd.int .i64) 3 w' w.heap.size (fun _ => True) v274 t272) ∧ Aside0 (Below w.heap.size w w'))
              case atStart => exact ⟨(0), (by first | rfl | (simp; done) | (simp [*]; done)), H', ⟨Nat.le_refl _⟩, ⟨by (with_reducible repeat (first | apply Kd.R_alloc | apply Kd.R_drewN | apply Kd.R_drew)); exact HO275.out⟩, ⟨by repeat (first | (with_reducible first | exact HB.out | apply below_alloc | apply pw_below_drewN | apply below_drew1) | exact HB.out)⟩⟩
              case round =>
                clear H'
                try clear c1
                try clear p2
                try clear q2
                try clear hx2
                try clear c4
                try clear c4b0
                try clear c4b1
                try clear c5
                try clear c6
                try clear c8
                try clear c8b0
                try clear c9
                try clear c9b0
                try clear c10
                try clear c10b0
                try clear c11
                try clear c11b0
                try clear c12
                try clear c14
                try clear c14b0
                try clear c14b1
                try clear hx271_0
                try clear p2
                try clear p271
                try clear q2
                try clear q271
                obtain ⟨x14_2, rfl, HA, HK2, HO_12, HB⟩ := hrel
                cases gk with
                | zero => exact absurd HA.out (by simp [searchlightlaw23_wrong.l1])
                | succ k2 =>
                  have H := HA.out
                  clear HA
                  simp only [searchlightlaw23_wrong.l1] at H
                  by_cases c16 : x14_2 < (t272.length : Int)
                  · rw [if_pos c16] at H
                    have c16b0 : decide (x14_2 < (t272.length : Int)) = true := decide_eq_true c16
                    clear c16
                    by_cases c17 : 0 ≤ x14_2
                    · rw [if_pos c17] at H
                      have c17b0 : decide (0 ≤ x14_2) = true := decide_eq_true c17
                      clear c17
                      by_cases c18 : 0 ≤ (rd t272 x14_2)
                      · rw [if_pos c18] at H
                        have c18b0 : decide (0 ≤ (rd t272 x14_2)) = true := decide_eq_true c18
                        clear c18
                        by_cases c19 : (rd t272 x14_2) < (l1.length : Int)
                        · rw [if_pos c19] at H
                          have c19b0 : decide ((rd t272 x14_2) < (l1.length : Int)) = true := decide_eq_true c19
                          clear c19
                          obtain ⟨bq20, hbq20⟩ : ∃ b_ : Bool, b_ = (rdOf false l1 (rd t272 x14_2)) := ⟨_, rfl⟩
                          replace H : (if bq20 = true then (some false) else (searchlightlaw23_wrong.l1 k2 l0 l1 t256 t272 (wrap64 (x14_2 + 1)))) = some true := by rw [← hbq20] at H; exact H
                          have Nbq20 := Aside0.mk hbq20
                          clear hbq20
                          by_cases c21 : bq20 = true
                          · subst c21
                            have H1 : (some false) = some true := by rw [if_pos rfl] at H; exact H
                            clear H
                            have H := H1
                            clear H1
                            exact absurd H (by simp)
                          · replace c21 := Bool.eq_false_iff.mpr c21
                            subst c21
                            have H1 : (searchlightlaw23_wrong.l1 k2 l0 l1 t256 t272 (wrap64 (x14_2 + 1))) = some true := by rw [if_neg (show ¬ (false = true) by decide)] at H; exact H
                            clear H
                            have H := H1
                            clear H1
                            have H' := Aside0.mk H
                            clear H
                            obtain ⟨Ao23, co23, eo23⟩ := Kd.R_slice HO_12.out
                            subst eo23
                            have p276 : 0 ≤ (x14_2 : Int) := of_decide_eq_true (by first | (with_reducible assumption) | assumption)
                            have q276 : x14_2 < (t272.length : Int) := of_decide_eq_true (by first | (with_reducible assumption) | assumption)
                            obtain ⟨ad276, e276, hx276_0⟩ := Kd.at_int (Kd.R_reads' HO_12.out).2.2 x14_2 p276 q276
                            cases e276
                            replace p276 := eq_true p276
                            replace q276 := eq_true q276
                            have p277 : 0 ≤ ((rd t272 x14_2) : Int) := of_decide_eq_true (by first | (with_reducible assumption) | assumption)
                            have q277 : (rd t272 x14_2) < (l1.length : Int) := of_decide_eq_true (by first | (with_reducible assumption) | assumption)
                            obtain ⟨ad277, e277, hx277_0⟩ := Kd.at_bool HR1.out (rd t272 x14_2) p277 q277
                            (try rw [← Nbq20.out] at hx277_0)
                            cases e277
                            replace hx277_0 := (HB.out.cell (World.block_lt_of_cell? w _ hx277_0)).trans hx277_0
                            replace p277 := eq_true p277
                            replace q277 := eq_true q277
                            go_wp2
                            go_roundg k2
                            case measure => have := HJ5.out; have := HK2.out; omega
                            case rel => exact ⟨(wrap64 (x14_2 + 1)), (by first | rfl | (simp; done) | (simp [*]; done)), H', ⟨by have := HJ5.out; have := HK2.out; omega⟩, ⟨by (with_reducible repeat (first | apply Kd.R_alloc | apply Kd.R_drewN | apply Kd.R_drew)); exact HO_12.out⟩, ⟨by repeat (first | (with_reducible first | exact HB.out | apply below_alloc | apply pw_below_drewN | apply below_drew1) | exact HB.out)⟩⟩
                        · rw [if_neg c19] at H
                          exact absurd H (by simp)
                      · rw [if_neg c18] at H
                        exact absurd H (by simp)
                    · rw [if_neg c17] at H
                      exact absurd H (by simp)
                  · rw [if_neg c16] at H
                    have c16b0 : decide (x14_2 < (t272.length : Int)) = false := decide_eq_false c16
                    clear c16
                    have H' := Aside0.mk H
                    clear H
                    obtain ⟨Ao24, co24, eo24⟩ := Kd.R_slice HO_12.out
                    subst eo24
                    go_wp2
                    go_loopg [15] k2 (fun kq v15 w' => ∃ (x15_3 : Int), v15 = .int .i64 x15_3 ∧ Aside0 (searchlightlaw23_wrong.l2 kq l0 l1 x15_3 = some true) ∧ Aside0 (kq ≤ k2) ∧ Aside0 (Below w.heap.size w w'))
                    case atStart => exact ⟨(t256), (by first | rfl | (simp; done) | (simp [*]; done)), H', ⟨Nat.le_refl _⟩, ⟨by repeat (first | (with_reducible first | exact HB.out | apply below_alloc | apply pw_below_drewN | apply below_drew1) | exact HB.out)⟩⟩
                    case round =>
                      clear H'
                      try clear c1
                      try clear c2
                      try clear p2
                      try clear q2
                      try clear hx2
                      try clear c4
                      try clear c4b0
                      try clear c4b1
                      try clear c5
                      try clear c6
                      try clear p6
                      try clear c8
                      try clear c8b0
                      try clear c9
                      try clear c9b0
                      try clear c10
                      try clear c10b0
                      try clear c11
                      try clear c11b0
                      try clear c12
                      try clear c14
                      try clear c14b0
                      try clear c14b1
                      try clear c16
                      try clear c16b0
                      try clear c17
                      try clear c17b0
                      try clear c18
                      try clear c18b0
                      try clear c19
                      try clear c19b0
                      try clear q20
                      try clear c21
                      try clear hx271_0
                      try clear hx276_0
                      try clear hx277_0
                      try clear p2
                      try clear p271
                      try clear p276
                      try clear p277
                      try clear q2
                      try clear q271
                      try clear q276
                      try clear q277
                      obtain ⟨x15_3, rfl, HA, HK3, HB⟩ := hrel
                      cases gk with
                      | zero => exact absurd HA.out (by simp [searchlightlaw23_wrong.l2])
                      | succ k3 =>
                        have H := HA.out
                        clear HA
                        simp only [searchlightlaw23_wrong.l2] at H
                        by_cases c25 : x15_3 ≥ 0
                        · rw [if_pos c25] at H
                          have c25b0 : decide (0 ≤ x15_3) = true := decide_eq_true c25
                          clear c25
                          by_cases c26 : 0 ≤ x15_3
                          · rw [if_pos c26] at H
                            have c26b0 : decide (0 ≤ x15_3) = true := decide_eq_true c26
                            clear c26
                            by_cases c27 : x15_3 < (l1.length : Int)
                            · rw [if_pos c27] at H
                              have c27b0 : decide (x15_3 < (l1.length : Int)) = true := decide_eq_true c27
                              clear c27
                              obtain ⟨bq28, hbq28⟩ : ∃ b_ : Bool, b_ = (rdOf false l1 x15_3) := ⟨_, rfl⟩
                              replace H : (if bq28 = true then (if x15_3 < (l0.length : Int) then (searchlightlaw23_wrong.l2 k3 l0 l1 ((rd_T40 l0 x15_3).f3)) else (none)) else (some false)) = some true := by rw [← hbq28] at H; exact H
                              have Nbq28 := Aside0.mk hbq28
                              clear hbq28
                              by_cases c29 : bq28 = true
                              · subst c29
                                have H1 : (if x15_3 < (l0.length : Int) then (searchlightlaw23_wrong.l2 k3 l0 l1 ((rd_T40 l0 x15_3).f3)) else (none)) = some true := by rw [if_pos rfl] at H; exact H
                                clear H
                                have H := H1
                                clear H1
                                by_cases c30 : x15_3 < (l0.length : Int)
                                · rw [if_pos c30] at H
                                  have c30b0 : decide (x15_3 < (l0.length : Int)) = true := decide_eq_true c30
                                  clear c30
                                  have H' := Aside0.mk H
                                  clear H
                                  have p278 : 0 ≤ (x15_3 : Int) := of_decide_eq_true (by first | (with_reducible assumption) | assumption)
                                  have q278 : x15_3 < (l1.length : Int) := of_decide_eq_true (by first | (with_reducible assumption) | assumption)
                                  obtain ⟨ad278, e278, hx278_0⟩ := Kd.at_bool HR1.out x15_3 p278 q278
                                  (try rw [← Nbq28.out] at hx278_0)
                                  cases e278
                                  replace hx278_0 := (HB.out.cell (World.block_lt_of_cell? w _ hx278_0)).trans hx278_0
                                  replace p278 := eq_true p278
                                  replace q278 := eq_true q278
                                  have p279 : 0 ≤ (x15_3 : Int) := of_decide_eq_true (by first | (with_reducible assumption) | assumption)
                                  have q279 : x15_3 < (l0.length : Int) := of_decide_eq_true (by first | (with_reducible assumption) | assumption)
                                  obtain ⟨ad279, A279_1, c279_1, A279_5, c279_5, e279, hx279_0, hx279_1, hx279_2, hx279_3, hx279_4, hx279_5, hx279_6, hl279_1, hi279_1, hl279_5, hi279_5⟩ := at_T40 HR0.out x15_3 p279 q279
                                  cases e279
                                  replace hx279_0 := (HB.out.cell (World.block_lt_of_cell? w _ hx279_0)).trans hx279_0
                                  replace hx279_1 := (HB.out.cell (World.block_lt_of_cell? w _ hx279_1)).trans hx279_1
                                  replace hx279_2 := (HB.out.cell (World.block_lt_of_cell? w _ hx279_2)).trans hx279_2
                                  replace hx279_3 := (HB.out.cell (World.block_lt_of_cell? w _ hx279_3)).trans hx279_3
                                  replace hx279_4 := (HB.out.cell (World.block_lt_of_cell? w _ hx279_4)).trans hx279_4
                                  replace hx279_5 := (HB.out.cell (World.block_lt_of_cell? w _ hx279_5)).trans hx279_5
                                  replace hx279_6 := (HB.out.cell (World.block_lt_of_cell? w _ hx279_6)).trans hx279_6
                                  have HR279_1 := Aside0.mk hi279_1
                                  have HC279_1 := Aside0.mk hl279_1
                                  clear hi279_1 hl279_1
                                  have HR279_5 := Aside0.mk hi279_5
                                  have HC279_5 := Aside0.mk hl279_5
                                  clear hi279_5 hl279_5
                                  replace p279 := eq_true p279
                                  replace q279 := eq_true q279
                                  go_wp2
                                  go_roundg k3
                                  case measure => have := HJ5.out; have := HK2.out; have := HK3.out; omega
                                  case rel => exact ⟨((rd_T40 l0 x15_3).f3), (by first | rfl | (simp; done) | (simp [*]; done)), H', ⟨by have := HJ5.out; have := HK2.out; have := HK3.out; omega⟩, ⟨by repeat (first | (with_reducible first | exact HB.out | apply below_alloc | apply pw_below_drewN | apply below_drew1) | exact HB.out)⟩⟩
                                · rw [if_neg c30] at H
                                  exact absurd H (by simp)
                              · replace c29 := Bool.eq_false_iff.mpr c29
                                subst c29
                                have H1 : (some false) = some true := by rw [if_neg (show ¬ (false = true) by decide)] at H; exact H
                                clear H
                                have H := H1
                                clear H1
                                exact absurd H (by simp)
                            · rw [if_neg c27] at H
                              exact absurd H (by simp)
                          · rw [if_neg c26] at H
                            exact absurd H (by simp)
                        · rw [if_neg c25] at H
                          have c25b0 : decide (0 ≤ x15_3) = false := decide_eq_false c25
                          clear c25
                          replace H := Option.bind_eq_some_iff.mp H
                          obtain ⟨t280, A310, H⟩ := H
                          replace H : (some t280) = some true := H
                          have A31 := Aside0.mk A310
                          clear A310
                          obtain rfl := Option.some.inj H
                          go_wp2_with (first | ((with_reducible refine gate_callee (f := 13) rfl ?_); refine goesL_ (some 105) rfl rfl Tryz.func13 (by kernel_rfl) rfl #[] rfl (by (try simp only [List.map_toArray, List.map_cons, List.map_nil]); first | done | rfl | (simp only [List.length_drop, List.length_take]; rfl)) ?_; (with_reducible refine (searchlightlaw23_known.calls  true _ A31.out).mono ?_); rintro e w32 ⟨rfl, hb⟩; refine ⟨_, rfl, ?_⟩; have n0_ := Aside0.mk (below_step (by repeat (first | (with_reducible first | exact HB.out | apply below_alloc | apply pw_below_drewN | apply below_drew1) | exact HB.out)) hb); clear HB; have HB := n0_; clear n0_; (try clear hb); (try clear hb2); (try clear hk); (try clear hi)))
                          go_ret
                          exact ⟨by first | rfl | (simp [errW_none, errW_some] <;> rfl) | (simp [*, errW_none, errW_some] <;> rfl), by repeat (first | (with_reducible first | exact HB.out | apply below_alloc | apply pw_below_drewN | apply below_drew1) | exact HB.out)⟩
            · rw [if_neg c14] at H
              have c14b0 : (t273 == 0) = false := beq_eq_false_iff_ne.mpr c14
              have c14b1 : (t273 != 0) = true := bne_iff_ne.mpr c14
              exact absurd H (by simp)
    · replace c5 := Bool.eq_false_iff.mpr c5
      subst c5
      have H1 : ((watch_Under.f k l0 (-1)).bind fun bt263 => (if bt263.2 = 0 then ((searchlightref01_SameInts.f k t257 bt263.1).bind fun t267 => (searchlightlaw23_wrong.j0 k l1 bt263.1 (!t267))) else (searchlightlaw23_wrong.j0 k l1 bt263.1 true))) = some true := by rw [if_neg (show ¬ (false = true) by decide)] at H; exact H
      clear H
      have H := H1
      clear H1
      replace H := Option.bind_eq_some_iff.mp H
      obtain ⟨⟨t263, t264⟩, A340, H⟩ := H
      replace H : (if t264 = 0 then ((searchlightref01_SameInts.f k t257 t263).bind fun t267 => (searchlightlaw23_wrong.j0 k l1 t263 (!t267))) else (searchlightlaw23_wrong.j0 k l1 t263 true)) = some true := H
      have A34 := Aside0.mk A340
      clear A340
      have HC35 := Aside0.mk H
      clear H
      go_enter Tryz.func5, Tryz.ntmps5
      go_upto_region 6 with (first | ((with_reducible refine gate_callee (f := 8) rfl ?_); refine goesL_ (some 19) rfl rfl Tryz.func8 (by kernel_rfl) rfl #[.slice A0 l0.length c0, .slice A1 l1.length c1] rfl (by (try simp only [List.map_toArray, List.map_cons, List.map_nil]); first | done | rfl | (simp only [List.length_drop, List.length_take]; rfl)) ?_; (with_reducible refine (watch_Wrong.calls _ _ l0 _ _ l1 t256 t257 false t259 _ ?side1 ?side2 ?side3 ?side4 A3.out).mono ?_); (case side1 => repeat (first | exact HR0.out | (with_reducible refine Kd.C_alloc ?_ _) | (with_reducible refine Kd.C_drewN ?_ _) | (with_reducible refine Kd.C_drew ?_))); (case side2 => exact HC0.out); (case side3 => repeat (first | exact HR1.out | (with_reducible refine Kd.C_alloc ?_ _) | (with_reducible refine Kd.C_drewN ?_ _) | (with_reducible refine Kd.C_drew ?_))); (case side4 => exact HC1.out); rintro e w36 ⟨v260, rfl, ho0, hb⟩; refine ⟨_, rfl, ?_⟩; have n0_ := Aside0.mk (Kd.R_lower ho0 (below_size (by repeat (first | (with_reducible first | exact HB.out | apply below_alloc | apply pw_below_drewN | apply below_drew1) | exact HB.out)))); have n1_ := Aside0.mk (below_step (by repeat (first | (with_reducible first | exact HB.out | apply below_alloc | apply pw_below_drewN | apply below_drew1) | exact HB.out)) hb); clear HB; have HO261 := n0_; have HB := n1_; clear n0_ n1_; (try clear hb); (try clear hb2); (try clear hk); (try clear hi); (try clear ho0)) | ((with_reducible refine gate_callee (f := 6) rfl ?_); refine goesL_ (some 31) rfl rfl Tryz.func6 (by kernel_rfl) rfl #[.slice A0 l0.length c0, .int .i64 (-1)] rfl (by (try simp only [List.map_toArray, List.map_cons, List.map_nil]); first | done | rfl | (simp only [List.length_drop, List.length_take]; rfl)) ?_; (with_reducible refine (watch_Under.calls k _ _ l0 (-1) t263 t264 _ ?side1 ?side2 A34.out).mono ?_); (case side1 => repeat (first | exact (Kd.C_below HR0.out HB.out) | (with_reducible refine Kd.C_alloc ?_ _) | (with_reducible refine Kd.C_drewN ?_ _) | (with_reducible refine Kd.C_drew ?_))); (case side2 => exact HC0.out); rintro e w37 ⟨v265, rfl, ho0, hb⟩; refine ⟨_, rfl, ?_⟩; have n0_ := Aside0.mk (Kd.R_elder' (by (with_reducible repeat (first | apply Kd.R_alloc | apply Kd.R_drewN | apply Kd.R_drew)); exact HO261.out) (Kd.R_base ho0) hb); have n1_ := Aside0.mk (Kd.R_lower (Kd.R_new' ho0 (Kd.R_lt (by (with_reducible repeat (first | apply Kd.R_alloc | apply Kd.R_drewN | apply Kd.R_drew)); exact HO261.out))) (below_size (by repeat (first | (with_reducible first | exact HB.out | apply below_alloc | apply pw_below_drewN | apply below_drew1) | exact HB.out)))); have n2_ := Aside0.mk (below_step (by repeat (first | (with_reducible first | exact HB.out | apply below_alloc | apply pw_below_drewN | apply below_drew1) | exact HB.out)) hb); clear HO261; clear HB; have HO261 := n0_; have HO266 := n1_; have HB := n2_; clear n0_ n1_ n2_; (try clear hb); (try clear hb2); (try clear hk); (try clear hi); (try clear ho0)))
      (try simp only [Act.put, List.setIfInBounds_toArray, List.set_cons_zero, List.set_cons_succ])
      go_cut [41] (fun v41 wc => ∃ (kq : Nat) (x41_34 : Bool), v41 = .bool x41_34 ∧ Aside0 (searchlightlaw23_wrong.j0 kq l1 t263 x41_34 = some true) ∧ Aside0 (kq ≤ k) ∧ Aside0 (Kd.R (Kd.int .i64) 3 wc w.heap.size (fun _ => True) v265 t263) ∧ Aside0 (Below w.heap.size w wc))
      case first =>
        have H := HC35.out
        clear HC35
        by_cases c38 : t264 = 0
        · rw [if_pos c38] at H
          have c38b0 : (t264 == 0) = true := beq_iff_eq.mpr c38
          have c38b1 : (t264 != 0) = false := bne_eq_false_iff_eq.mpr c38
          clear c38
          (first | rw [c38b0] | (simp only [i64_w, i32_w]; rw [c38b0]) | skip)
          replace H := Option.bind_eq_some_iff.mp H
          obtain ⟨t267, A390, H⟩ := H
          replace H : (searchlightlaw23_wrong.j0 k l1 t263 (!t267)) = some true := H
          have A39 := Aside0.mk A390
          clear A390
          have H' := Aside0.mk H
          clear H
          obtain ⟨Ao40, co40, eo40⟩ := Kd.R_slice HO261.out
          subst eo40
          obtain ⟨Ao41, co41, eo41⟩ := Kd.R_slice HO266.out
          subst eo41
          go_wp2_with (first | (go_at_call 12; (with_reducible refine (searchlightref01_SameInts.calls k _ _ t257 _ _ t263 t267 _ ?side1 ?side2 ?side3 ?side4 A39.out).mono ?_); (case side1 => repeat (first | exact (Kd.R_reads' HO261.out).2.2 | (with_reducible refine Kd.C_alloc ?_ _) | (with_reducible refine Kd.C_drewN ?_ _) | (with_reducible refine Kd.C_drew ?_))); (case side2 => exact (Kd.R_reads' HO261.out).2.1); (case side3 => repeat (first | exact (Kd.R_reads' HO266.out).2.2 | (with_reducible refine Kd.C_alloc ?_ _) | (with_reducible refine Kd.C_drewN ?_ _) | (with_reducible refine Kd.C_drew ?_))); (case side4 => exact (Kd.R_reads' HO266.out).2.1); rintro e w' ⟨rfl, ⟨nd, rfl⟩⟩))
          go_meet
          case rel => exact ⟨_, (!t267), (by first | rfl | (simp; done) | (simp [*]; done)), H', ⟨by first | omega | exact Nat.le_refl _⟩, ⟨by (with_reducible repeat (first | apply Kd.R_alloc | apply Kd.R_drewN | apply Kd.R_drew)); exact Kd.R_mono HO266.out (fun _ hk => trivial)⟩, ⟨by repeat (first | (with_reducible first | exact HB.out | apply below_alloc | apply pw_below_drewN | apply below_drew1) | exact HB.out)⟩⟩
        · rw [if_neg c38] at H
          have c38b0 : (t264 == 0) = false := beq_eq_false_iff_ne.mpr c38
          have c38b1 : (t264 != 0) = true := bne_iff_ne.mpr c38
          (first | rw [c38b0] | (simp only [i64_w, i32_w]; rw [c38b0]) | skip)
          have H' := Aside0.mk H
          clear H
          go_wp2
          go_meet
          case rel => exact ⟨_, (true), (by first | rfl | (simp; done) | (simp [*]; done)), H', ⟨by first | omega | exact Nat.le_refl _⟩, ⟨by (with_reducible repeat (first | apply Kd.R_alloc | apply Kd.R_drewN | apply Kd.R_drew)); exact Kd.R_mono HO266.out (fun _ hk => trivial)⟩, ⟨by repeat (first | (with_reducible first | exact HB.out | apply below_alloc | apply pw_below_drewN | apply below_drew1) | exact HB.out)⟩⟩
      case rest =>
        clear HC35
        try clear c1
        try clear c2
        try clear p2
        try clear q2
        try clear hx2
        try clear c3
        try clear c4
        try clear c4b0
        try clear c4b1
        try clear c5
        try clear c6
        try clear p6
        try clear c8
        try clear c8b0
        try clear c9
        try clear c9b0
        try clear c10
        try clear c10b0
        try clear c11
        try clear c11b0
        try clear c12
        try clear c13
        try clear c14
        try clear c14b0
        try clear c14b1
        try clear c16
        try clear c16b0
        try clear c17
        try clear c17b0
        try clear c18
        try clear c18b0
        try clear c19
        try clear c19b0
        try clear q20
        try clear c21
        try clear c25
        try clear c25b0
        try clear c26
        try clear c26b0
        try clear c27
        try clear c27b0
        try clear p27
        try clear q27
        try clear hx27
        try clear q28
        try clear c29
        try clear c30
        try clear c30b0
        try clear c38
        try clear c38b0
        try clear c38b1
        try clear hx271_0
        try clear hx276_0
        try clear hx277_0
        try clear hx278_0
        try clear hx279_0
        try clear hx279_1
        try clear hx279_2
        try clear hx279_3
        try clear hx279_4
        try clear hx279_5
        try clear hx279_6
        try clear p2
        try clear p271
        try clear p276
        try clear p277
        try clear p278
        try clear p279
        try clear p6
        try clear q2
        try clear q20
        try clear q271
        try clear q276
        try clear q277
        try clear q278
        try clear q279
        obtain ⟨kq, x41_34, rfl, HA, HJ34, HO_9, HB⟩ := hcut
        cases kq with
        | zero => exact absurd HA.out (by simp [searchlightlaw23_wrong.j0])
        | succ kj34 =>
          have H := HA.out
          clear HA
          simp only [searchlightlaw23_wrong.j0] at H
          by_cases c42 : x41_34 = true
          · subst c42
            have H1 : (some false) = some true := by rw [if_pos rfl] at H; exact H
            clear H
            have H := H1
            clear H1
            exact absurd H (by simp)
          · replace c42 := Bool.eq_false_iff.mpr c42
            subst c42
            have H1 : (searchlightlaw23_wrong.l0 kj34 l1 t263 0) = some true := by rw [if_neg (show ¬ (false = true) by decide)] at H; exact H
            clear H
            have H := H1
            clear H1
            have H' := Aside0.mk H
            clear H
            go_wp2
            go_loopg [11] kj34 (fun kq v11 w' => ∃ (x11_2 : Int), v11 = .int .i64 x11_2 ∧ Aside0 (searchlightlaw23_wrong.l0 kq l1 t263 x11_2 = some true) ∧ Aside0 (kq ≤ kj34) ∧ Aside0 (Kd.R (Kd.int .i64) 3 w' w.heap.size (fun _ => True) v265 t263) ∧ Aside0 (Below w.heap.size w w'))
            case atStart => exact ⟨(0), (by first | rfl | (simp; done) | (simp [*]; done)), H', ⟨Nat.le_refl _⟩, ⟨by (with_reducible repeat (first | apply Kd.R_alloc | apply Kd.R_drewN | apply Kd.R_drew)); exact HO_9.out⟩, ⟨by repeat (first | (with_reducible first | exact HB.out | apply below_alloc | apply pw_below_drewN | apply below_drew1) | exact HB.out)⟩⟩
            case round =>
              clear H'
              try clear c1
              try clear c2
              try clear p2
              try clear q2
              try clear hx2
              try clear c3
              try clear c4
              try clear c4b0
              try clear c4b1
              try clear c5
              try clear c6
              try clear p6
              try clear c8
              try clear c8b0
              try clear c9
              try clear c9b0
              try clear c10
              try clear c10b0
              try clear c11
              try clear c11b0
              try clear c12
              try clear c13
              try clear c14
              try clear c14b0
              try clear c14b1
              try clear c16
              try clear c16b0
              try clear c17
              try clear c17b0
              try clear c18
              try clear c18b0
              try clear c19
              try clear c19b0
              try clear q20
              try clear c21
              try clear c25
              try clear c25b0
              try clear c26
              try clear c26b0
              try clear c27
              try clear c27b0
              try clear p27
              try clear q27
              try clear hx27
              try clear q28
              try clear c29
              try clear c30
              try clear c30b0
              try clear c38
              try clear c38b0
              try clear c38b1
              try clear c42
              try clear hx271_0
              try clear hx276_0
              try clear hx277_0
              try clear hx278_0
              try clear hx279_0
              try clear hx279_1
              try clear hx279_2
              try clear hx279_3
              try clear hx279_4
              try clear hx279_5
              try clear hx279_6
              try clear p2
              try clear p27
              try clear p271
              try clear p276
              try clear p277
              try clear p278
              try clear p279
              try clear p6
              try clear q2
              try clear q20
              try clear q27
              try clear q271
              try clear q276
              try clear q277
              try clear q278
              try clear q279
              try clear q28
              obtain ⟨x11_2, rfl, HA, HK2, HO_9, HB⟩ := hrel
              cases gk with
              | zero => exact absurd HA.out (by simp [searchlightlaw23_wrong.l0])
              | succ k2 =>
                have H := HA.out
                clear HA
                simp only [searchlightlaw23_wrong.l0] at H
                by_cases c43 : x11_2 < (t263.length : Int)
                · rw [if_pos c43] at H
                  have c43b0 : decide (x11_2 < (t263.length : Int)) = true := decide_eq_true c43
                  clear c43
                  by_cases c44 : 0 ≤ x11_2
                  · rw [if_pos c44] at H
                    have c44b0 : decide (0 ≤ x11_2) = true := decide_eq_true c44
                    clear c44
                    by_cases c45 : 0 ≤ (rd t263 x11_2)
                    · rw [if_pos c45] at H
                      have c45b0 : decide (0 ≤ (rd t263 x11_2)) = true := decide_eq_true c45
                      clear c45
                      by_cases c46 : (rd t263 x11_2) < (l1.length : Int)
                      · rw [if_pos c46] at H
                        have c46b0 : decide ((rd t263 x11_2) < (l1.length : Int)) = true := decide_eq_true c46
                        clear c46
                        obtain ⟨bq47, hbq47⟩ : ∃ b_ : Bool, b_ = (rdOf false l1 (rd t263 x11_2)) := ⟨_, rfl⟩
                        replace H : (if bq47 = true then (some false) else (searchlightlaw23_wrong.l0 k2 l1 t263 (wrap64 (x11_2 + 1)))) = some true := by rw [← hbq47] at H; exact H
                        have Nbq47 := Aside0.mk hbq47
                        clear hbq47
                        by_cases c48 : bq47 = true
                        · subst c48
                          have H1 : (some false) = some true := by rw [if_pos rfl] at H; exact H
                          clear H
                          have H := H1
                          clear H1
                          exact absurd H (by simp)
                        · replace c48 := Bool.eq_false_iff.mpr c48
                          subst c48
                          have H1 : (searchlightlaw23_wrong.l0 k2 l1 t263 (wrap64 (x11_2 + 1))) = some true := by rw [if_neg (show ¬ (false = true) by decide)] at H; exact H
                          clear H
                          have H := H1
                          clear H1
                          have H' := Aside0.mk H
                          clear H
                          obtain ⟨Ao50, co50, eo50⟩ := Kd.R_slice HO_9.out
                          subst eo50
                          have p268 : 0 ≤ (x11_2 : Int) := of_decide_eq_true (by first | (with_reducible assumption) | assumption)
                          have q268 : x11_2 < (t263.length : Int) := of_decide_eq_true (by first | (with_reducible assumption) | assumption)
                          obtain ⟨ad268, e268, hx268_0⟩ := Kd.at_int (Kd.R_reads' HO_9.out).2.2 x11_2 p268 q268
                          cases e268
                          replace p268 := eq_true p268
                          replace q268 := eq_true q268
                          have p269 : 0 ≤ ((rd t263 x11_2) : Int) := of_decide_eq_true (by first | (with_reducible assumption) | assumption)
                          have q269 : (rd t263 x11_2) < (l1.length : Int) := of_decide_eq_true (by first | (with_reducible assumption) | assumption)
                          obtain ⟨ad269, e269, hx269_0⟩ := Kd.at_bool HR1.out (rd t263 x11_2) p269 q269
                          (try rw [← Nbq47.out] at hx269_0)
                          cases e269
                          replace hx269_0 := (HB.out.cell (World.block_lt_of_cell? w _ hx269_0)).trans hx269_0
                          replace p269 := eq_true p269
                          replace q269 := eq_true q269
                          go_wp2
                          go_roundg k2
                          case measure => have := HJ34.out; have := HK2.out; omega
                          case rel => exact ⟨(wrap64 (x11_2 + 1)), (by first | rfl | (simp; done) | (simp [*]; done)), H', ⟨by have := HJ34.out; have := HK2.out; omega⟩, ⟨by (with_reducible repeat (first | apply Kd.R_alloc | apply Kd.R_drewN | apply Kd.R_drew)); exact HO_9.out⟩, ⟨by repeat (first | (with_reducible first | exact HB.out | apply below_alloc | apply pw_below_drewN | apply below_drew1) | exact HB.out)⟩⟩
                      · rw [if_neg c46] at H
                        exact absurd H (by simp)
                    · rw [if_neg c45] at H
                      exact absurd H (by simp)
                  · rw [if_neg c44] at H
                    exact absurd H (by simp)
                · rw [if_neg c43] at H
                  have c43b0 : decide (x11_2 < (t263.length : Int)) = false := decide_eq_false c43
                  clear c43
                  replace H := Option.bind_eq_some_iff.mp H
                  obtain ⟨t270, A510, H⟩ := H
                  replace H : (some t270) = some true := H
                  have A51 := Aside0.mk A510
                  clear A510
                  obtain rfl := Option.some.inj H
                  obtain ⟨Ao52, co52, eo52⟩ := Kd.R_slice HO_9.out
                  subst eo52
                  go_wp2_with (first | ((with_reducible refine gate_callee (f := 13) rfl ?_); refine goesL_ (some 55) rfl rfl Tryz.func13 (by kernel_rfl) rfl #[] rfl (by (try simp only [List.map_toArray, List.map_cons, List.map_nil]); first | done | rfl | (simp only [List.length_drop, List.length_take]; rfl)) ?_; (with_reducible refine (searchlightlaw23_known.calls  true _ A51.out).mono ?_); rintro e w53 ⟨rfl, hb⟩; refine ⟨_, rfl, ?_⟩; have n0_ := Aside0.mk (Kd.R_below (by (with_reducible repeat (first | apply Kd.R_alloc | apply Kd.R_drewN | apply Kd.R_drew)); exact HO_9.out) hb); have n1_ := Aside0.mk (below_step (by repeat (first | (with_reducible first | exact HB.out | apply below_alloc | apply pw_below_drewN | apply below_drew1) | exact HB.out)) hb); clear HO_9; clear HB; have HO_9 := n0_; have HB := n1_; clear n0_ n1_; (try clear hb); (try clear hb2); (try clear hk); (try clear hi)))
                  go_ret
                  exact ⟨by first | rfl | (simp [errW_none, errW_some] <;> rfl) | (simp [*, errW_none, errW_some] <;> rfl), by repeat (first | (with_reducible first | exact HB.out | apply below_alloc | apply pw_below_drewN | apply below_drew1) | exact HB.out)⟩
  · rw [if_neg c4] at H
    have c4b0 : (t259 == 0) = false := beq_eq_false_iff_ne.mpr c4
    have c4b1 : (t259 != 0) = true := bne_iff_ne.mpr c4
    replace H := Option.bind_eq_some_iff.mp H
    obtain ⟨t262, A540, H⟩ := H
    replace H : (some t262) = some true := H
    have A54 := Aside0.mk A540
    clear A540
    obtain rfl := Option.some.inj H
    go_enter Tryz.func5, Tryz.ntmps5
    go_wp2_with (first | ((with_reducible refine gate_callee (f := 8) rfl ?_); refine goesL_ (some 19) rfl rfl Tryz.func8 (by kernel_rfl) rfl #[.slice A0 l0.length c0, .slice A1 l1.length c1] rfl (by (try simp only [List.map_toArray, List.map_cons, List.map_nil]); first | done | rfl | (simp only [List.length_drop, List.length_take]; rfl)) ?_; (with_reducible refine (watch_Wrong.calls _ _ l0 _ _ l1 t256 t257 t258 t259 _ ?side1 ?side2 ?side3 ?side4 A3.out).mono ?_); (case side1 => repeat (first | exact HR0.out | (with_reducible refine Kd.C_alloc ?_ _) | (with_reducible refine Kd.C_drewN ?_ _) | (with_reducible refine Kd.C_drew ?_))); (case side2 => exact HC0.out); (case side3 => repeat (first | exact HR1.out | (with_reducible refine Kd.C_alloc ?_ _) | (with_reducible refine Kd.C_drewN ?_ _) | (with_reducible refine Kd.C_drew ?_))); (case side4 => exact HC1.out); rintro e w55 ⟨v260, rfl, ho0, hb⟩; refine ⟨_, rfl, ?_⟩; have n0_ := Aside0.mk (Kd.R_lower ho0 (below_size (by repeat (first | (with_reducible first | exact HB.out | apply below_alloc | apply pw_below_drewN | apply below_drew1) | exact HB.out)))); have n1_ := Aside0.mk (below_step (by repeat (first | (with_reducible first | exact HB.out | apply below_alloc | apply pw_below_drewN | apply below_drew1) | exact HB.out)) hb); clear HB; have HO261 := n0_; have HB := n1_; clear n0_ n1_; (try clear hb); (try clear hb2); (try clear hk); (try clear hi); (try clear ho0)) | ((with_reducible refine gate_callee (f := 13) rfl ?_); refine goesL_ (some 26) rfl rfl Tryz.func13 (by kernel_rfl) rfl #[] rfl (by (try simp only [List.map_toArray, List.map_cons, List.map_nil]); first | done | rfl | (simp only [List.length_drop, List.length_take]; rfl)) ?_; (with_reducible refine (searchlightlaw23_known.calls  true _ A54.out).mono ?_); rintro e w56 ⟨rfl, hb⟩; refine ⟨_, rfl, ?_⟩; have n0_ := Aside0.mk (Kd.R_below (by (with_reducible repeat (first | apply Kd.R_alloc | apply Kd.R_drewN | apply Kd.R_drew)); exact HO261.out) hb); have n1_ := Aside0.mk (below_step (by repeat (first | (with_reducible first | exact HB.out | apply below_alloc | apply pw_below_drewN | apply below_drew1) | exact HB.out)) hb); clear HO261; clear HB; have HO261 := n0_; have HB := n1_; clear n0_ n1_; (try clear hb); (try clear hb2); (try clear hk); (try clear hi)))
    go_ret
    exact ⟨by first | rfl | (simp [errW_none, errW_some] <;> rfl) | (simp [*, errW_none, errW_some] <;> rfl), by repeat (first | (with_reducible first | exact HB.out | apply below_alloc | apply pw_below_drewN | apply below_drew1) | exact HB.out)⟩
end Go.Proofs.YtdcdfahhlfeifaaGreatDoor.Q

end
section
namespace Go.Proofs.YtdcdfahhlfeifaaGreatDoor.Q
open Go.RowKit Go.Proofs.YtdcdfahhlfeifaaGreatDoorW.PrintWords Go.Proofs.YtdcdfahhlfeifaaGreatDoorW.PrintLast Go.Proofs.YtdcdfahhlfeifaaGreatDoorW.PrintMore
attribute [local go_sem] max2_int min2_int max_two min_two max_three min_three max_four min_four   -- for this text's walks alone
set_option linter.unusedVariables false
set_option linter.unusedSimpArgs false
def searchlightlaw23_WatchWrong.f (k : Nat) (l0 : List (S40)) (a1 : Int) (l2 : List Bool) : Option (Bool) := (searchlightlaw23_lists.f k l0 a1 l2).bind fun t281 => (if t281 = true then ((searchlightlaw23_wrong.f k l0 l2).bind fun t282 => (some t282)) else (some false))
set_option maxHeartbeats 8000000 in
set_option maxRecDepth 100000 in
theorem searchlightlaw23_WatchWrong.calls (k : Nat) (A0 : Option Addr) (c0 : Nat) (l0 : List (S40)) (a1 : Int) (A2 : Option Addr) (c2 : Nat) (l2 : List Bool) (w : World) (hr0 : Kd.C k40 w A0 l0.length l0) (hc0 : l0.length ≤ c0) (hr2 : Kd.C Kd.bool w A2 l2.length l2) (hc2 : l2.length ≤ c2) (h : searchlightlaw23_WatchWrong.f k l0 a1 l2 = some true) (ht : Tab w) :
    Calls Tryz.prog 3 #[.slice A0 l0.length c0, .int .i64 a1, .slice A2 l2.length c2] w fun e w' => e = .returned (.bool true) ∧ Below w.heap.size w w' := by
  have HT := Aside0.mk ht
  clear ht
  have HR0 := Aside0.mk hr0
  have HC0 := Aside0.mk hc0
  clear hr0 hc0
  have HR2 := Aside0.mk hr2
  have HC2 := Aside0.mk hc2
  clear hr2 hc2
  have HB := Aside0.mk (Below.refl w.heap.size w)
  have H : ((searchlightlaw23_lists.f k l0 a1 l2).bind fun t281 => (if t281 = true then ((searchlightlaw23_wrong.f k l0 l2).bind fun t282 => (some t282)) else (some false))) = some true := h
  clear h
  replace H := Option.bind_eq_some_iff.mp H
  obtain ⟨t281, A40, H⟩ := H
  replace H : (if t281 = true then ((searchlightlaw23_wrong.f k l0 l2).bind fun t282 => (some t282)) else (some false)) = some true := H
  have A4 := Aside0.mk A40
  clear A40
  by_cases c5 : t281 = true
  · subst c5
    have H1 : ((searchlightlaw23_wrong.f k l0 l2).bind fun t282 => (some t282)) = some true := by rw [if_pos rfl] at H; exact H
    clear H
    have H := H1
    clear H1
    replace H := Option.bind_eq_some_iff.mp H
    obtain ⟨t282, A60, H⟩ := H
    replace H : (some t282) = some true := H
    have A6 := Aside0.mk A60
    clear A60
    obtain rfl := Option.some.inj H
    go_enter Tryz.func3, Tryz.ntmps3
    go_wp2_with (first | ((with_reducible refine gate_callee (f := 4) rfl ?_); refine goesL_ (some 10) rfl rfl Tryz.func4 (by kernel_rfl) rfl #[.slice A0 l0.length c0, .int .i64 a1, .slice A2 l2.length c2] rfl (by (try simp only [List.map_toArray, List.map_cons, List.map_nil]); first | done | rfl | (simp only [List.length_drop, List.length_take]; rfl)) ?_; (with_reducible refine (searchlightlaw23_lists.calls k _ _ l0 a1 _ _ l2 _ ?side1 ?side2 ?side3 ?side4 A4.out (Tab.below HT.out (by repeat (first | (with_reducible first | exact HB.out | apply below_alloc | apply pw_below_drewN | apply below_drew1) | exact HB.out)))).mono ?_); (case side1 => repeat (first | exact HR0.out | (with_reducible refine Kd.C_alloc ?_ _) | (with_reducible refine Kd.C_drewN ?_ _) | (with_reducible refine Kd.C_drew ?_))); (case side2 => exact HC0.out); (case side3 => repeat (first | exact HR2.out | (with_reducible refine Kd.C_alloc ?_ _) | (with_reducible refine Kd.C_drewN ?_ _) | (with_reducible refine Kd.C_drew ?_))); (case side4 => exact HC2.out); rintro e w7 ⟨rfl, hb⟩; refine ⟨_, rfl, ?_⟩; have n0_ := Aside0.mk (below_step (by repeat (first | (with_reducible first | exact HB.out | apply below_alloc | apply pw_below_drewN | apply below_drew1) | exact HB.out)) hb); clear HB; have HB := n0_; clear n0_; (try clear hb); (try clear hb2); (try clear hk); (try clear hi)) | (go_at_call 5; (with_reducible refine (searchlightlaw23_wrong.calls k _ _ l0 _ _ l2 _ ?side1 ?side2 ?side3 ?side4 A6.out).mono ?_); (case side1 => repeat (first | exact (Kd.C_below HR0.out HB.out) | (with_reducible refine Kd.C_alloc ?_ _) | (with_reducible refine Kd.C_drewN ?_ _) | (with_reducible refine Kd.C_drew ?_))); (case side2 => exact HC0.out); (case side3 => repeat (first | exact (Kd.C_below HR2.out HB.out) | (with_reducible refine Kd.C_alloc ?_ _) | (with_reducible refine Kd.C_drewN ?_ _) | (with_reducible refine Kd.C_drew ?_))); (case side4 => exact HC2.out); rintro e w8 ⟨rfl, hb⟩; have n0_ := Aside0.mk (below_step (by repeat (first | (with_reducible first | exact HB.out | apply below_alloc | apply pw_below_drewN | apply below_drew1) | exact HB.out)) hb); clear HB; have HB := n0_; clear n0_; (try clear hb); (try clear hb2); (try clear hk); (try clear hi)))
    go_ret
    exact ⟨by first | rfl | (simp [errW_none, errW_some] <;> rfl) | (simp [*, errW_none, errW_some] <;> rfl), by repeat (first | (with_reducible first | exact HB.out | apply below_alloc | apply pw_below_drewN | apply below_drew1) | exact HB.out)⟩
  · replace c5 := Bool.eq_false_iff.mpr c5
    subst c5
    have H1 : (some false) = some true := by rw [if_neg (show ¬ (false = true) by decide)] at H; exact H
    clear H
    have H := H1
    clear H1
    exact absurd H (by simp)
end Go.Proofs.YtdcdfahhlfeifaaGreatDoor.Q

end
