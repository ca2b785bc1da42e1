/- The row: its arguments' reading, the listed table, the walk. -/
import Derived.Test.YtdcdfahhlfeifaaGreatDoorRows
import Derived.Test.YtdcdfahhlfeifaaGreatDoorYh
import Derived.Test.YtdcdfahhlfeifaaGreatDoorYb
import Derived.WalkKit
import Derived.ProofKit
import Derived.OpenShut
import Derived.ShutString
import Derived.ChangeOld
import Derived.Below
import Derived.SizedLaws
import Derived.LaidMore
import Derived.Lib.LaidTab
import Derived.Stop.LaidErr
import Derived.Stop.Joined
import Derived.Test.YtdcdfahhlfeifaaGreatDoorYi
section
namespace Go.Proofs.YtdcdfahhlfeifaaGreatDoor.Q
open Go.RowKit Go.Proofs.YtdcdfahhlfeifaaGreatDoorW.PrintWords Go.Proofs.YtdcdfahhlfeifaaGreatDoorW.PrintLast Go.Proofs.YtdcdfahhlfeifaaGreatDoorW.PrintMore
set_option linter.unusedVariables false
theorem row_of {α : Type} (Q : Nat → α → Prop) : ∀ (n : Nat), (∀ i, i < n → ∃ x, Q i x) → ∃ xs : List α, xs.length = n ∧ ∀ i x, xs[i]? = some x → Q i x
  | 0, _ => ⟨[], rfl, fun i x h => by simp at h⟩
  | n + 1, h => by
    obtain ⟨xs, hl, hx⟩ := row_of Q n fun i hi => h i (by omega)
    obtain ⟨y, hy⟩ := h n (by omega)
    refine ⟨xs ++ [y], by simp [hl], fun i x hi => ?_⟩
    by_cases hlt : i < n
    · rw [List.getElem?_append_left (by omega)] at hi
      exact hx i x hi
    · rw [List.getElem?_append_right (by omega)] at hi
      have h0 : i - xs.length = 0 := by
        have := (List.getElem?_eq_some_iff.1 hi).1
        simp at this; omega
      rw [h0] at hi
      simp at hi
      rw [show i = n by omega, ← hi]; exact hy
section
variable {H : Type} {enc : TypeId × Value → H} {w : World} {sp : Nat → Bool} {held : Bool}
theorem C_of_trod {α : Type} (d : Kd α) {T E : TypeId} (hT : Tryz.prog.underlying T = some (.slice E)) (hsz : Tryz.prog.cellsOf E = d.sz) (fuel : Nat) {cs : List Value} {y : DataW H × List MemPlace}
    (h : DataW.trod enc Tryz.prog w 0 sp held fuel T cs = some y) (he : ∀ m, m < fuel → ∀ cs y, DataW.trod enc Tryz.prog w 0 sp held m E cs = some y → ∃ x, d.K w x cs) : ∃ A n c, ∃ xs : List α, cs = [.slice A n c] ∧ xs.length = n ∧ n ≤ c ∧ d.C w A n xs := by
  rcases DataW.trod_slice hT h with ⟨rfl, _⟩ | ⟨a, len, cap, elems, rest, n, rfl, rfl, _, _, hl, hm, hlen, hel, _, _⟩
  · exact ⟨none, 0, 0, [], rfl, rfl, Nat.le_refl _, rfl, by omega, fun h => by omega⟩
  · have each : ∀ i, i < len → ∃ x, ∃ c : List Value, c.length = d.sz ∧ d.K w x c ∧ ∀ j u, c[j]? = some u → w.cell? (a.add (i * d.sz + j)) = some u := fun i hi => by
      have h1 := hel i hi
      rw [List.getElem?_eq_getElem (by omega), Option.bind_eq_some_iff] at h1
      obtain ⟨c, hc, hy⟩ := h1
      obtain ⟨x, hx⟩ := he n (by omega) c _ hy
      obtain ⟨_, hcl, hcc⟩ := World.cells?_some hc
      refine ⟨x, c, by rw [hcl, hsz], hx, fun j u hj => ?_⟩
      have hjl : j < Tryz.prog.cellsOf E := by have := (List.getElem?_eq_some_iff.1 hj).1; omega
      have := hcc j hjl
      have e : (a.add (i * d.sz)).add j = a.add (i * d.sz + j) := Addr.add_add a _ _
      rw [hj, hsz, e] at this
      exact this
    obtain ⟨xs, hxl, hxs⟩ := row_of _ len each
    exact ⟨some a, len, cap, xs, rfl, hxl, hl, hxl, by unfold maxLen at hm; omega, fun _ => ⟨a, rfl, hxs⟩⟩
theorem four {α : Type} {l : List α} (h : l.length = 4) : ∃ a b c d, l = [a, b, c, d] := by
  match l, h with
  | [a, b, c, d], _ => exact ⟨a, b, c, d, rfl⟩
theorem seven {α : Type} {l : List α} (h : l.length = 7) : ∃ a b c d e f g, l = [a, b, c, d, e, f, g] := by
  match l, h with
  | [a, b, c, d, e, f, g], _ => exact ⟨a, b, c, d, e, f, g, rfl⟩
theorem nc38 : Tryz.prog.cellsOf 38 = 4 := by kernel_rfl
theorem nc40 : Tryz.prog.cellsOf 40 = 7 := by kernel_rfl
theorem nc36 : Tryz.prog.cellsOf 36 = 1 := by kernel_rfl
theorem nc3 : Tryz.prog.cellsOf 3 = 1 := by kernel_rfl
theorem nc4 : Tryz.prog.cellsOf 4 = 1 := by kernel_rfl
theorem nc9 : Tryz.prog.cellsOf 9 = 1 := by kernel_rfl
theorem K38_of_trod : ∀ (fuel : Nat) (cs : List Value) (y : DataW H × List MemPlace), DataW.trod enc Tryz.prog w 0 sp held fuel 38 cs = some y → ∃ x, k38.K w x cs := by
  intro fuel
  induction fuel using Nat.strongRecOn with
  | _ fuel ih =>
    intro cs y h
    obtain ⟨xs, n, rfl, _, hl, hxl, hf⟩ := DataW.trod_struct Tryz.underlying38 h
    rw [nc38] at hl
    obtain ⟨v0, v1, v2, v3, rfl⟩ := four hl
    obtain ⟨y0, y1, y2, y3, rfl⟩ := four hxl
    have h0 := hf 0 _ rfl
    have h1 := hf 1 _ rfl
    have h2 := hf 2 _ rfl
    have h3 := hf 3 _ rfl
    change DataW.trod enc Tryz.prog w 0 sp held n 3 (List.take (Tryz.prog.cellsOf 3) (List.drop 0 _)) = some y0 at h0
    change DataW.trod enc Tryz.prog w 0 sp held n 9 (List.take (Tryz.prog.cellsOf 9) (List.drop 1 _)) = some y1 at h1
    change DataW.trod enc Tryz.prog w 0 sp held n 3 (List.take (Tryz.prog.cellsOf 3) (List.drop 2 _)) = some y2 at h2
    change DataW.trod enc Tryz.prog w 0 sp held n 36 (List.take (Tryz.prog.cellsOf 36) (List.drop 3 _)) = some y3 at h3
    rw [nc3] at h0 h2
    rw [nc9] at h1
    rw [nc36] at h3
    obtain ⟨a, e0, _, _⟩ := DataW.trod_int Tryz.underlying3 (show _ = some y0 from h0)
    obtain ⟨b, e1, _, _⟩ := DataW.trod_string Tryz.underlying9 (show _ = some y1 from h1)
    obtain ⟨c, e2, _, _⟩ := DataW.trod_int Tryz.underlying3 (show _ = some y2 from h2)
    obtain ⟨A, m, q, l, e3, rfl, hle, hC⟩ := C_of_trod k38 Tryz.underlying36 nc38 n (show _ = some y3 from h3) fun m hm cs y => ih m (by omega) cs y
    simp at e0 e1 e2 e3
    subst e0 e1 e2 e3
    exact ⟨⟨a, b, c, l⟩, k38_mk w ⟨a, b, c, l⟩ hle hC⟩
theorem K40_of_trod (fuel : Nat) (cs : List Value) (y : DataW H × List MemPlace) (h : DataW.trod enc Tryz.prog w 0 sp held fuel 40 cs = some y) : ∃ x, k40.K w x cs := by
  obtain ⟨xs, n, rfl, _, hl, hxl, hf⟩ := DataW.trod_struct Tryz.underlying40 h
  rw [nc40] at hl
  obtain ⟨v0, v1, v2, v3, v4, v5, v6, rfl⟩ := seven hl
  obtain ⟨y0, y1, y2, y3, rfl⟩ := four hxl
  have h0 := hf 0 _ rfl
  have h1 := hf 1 _ rfl
  have h2 := hf 2 _ rfl
  have h3 := hf 3 _ rfl
  change DataW.trod enc Tryz.prog w 0 sp held n 9 (List.take (Tryz.prog.cellsOf 9) (List.drop 0 _)) = some y0 at h0
  change DataW.trod enc Tryz.prog w 0 sp held n 36 (List.take (Tryz.prog.cellsOf 36) (List.drop 1 _)) = some y1 at h1
  change DataW.trod enc Tryz.prog w 0 sp held n 38 (List.take (Tryz.prog.cellsOf 38) (List.drop 2 _)) = some y2 at h2
  change DataW.trod enc Tryz.prog w 0 sp held n 3 (List.take (Tryz.prog.cellsOf 3) (List.drop 6 _)) = some y3 at h3
  rw [nc9] at h0
  rw [nc36] at h1
  rw [nc38] at h2
  rw [nc3] at h3
  obtain ⟨s, e0, _, _⟩ := DataW.trod_string Tryz.underlying9 (show _ = some y0 from h0)
  obtain ⟨A, m, q, l, e1, rfl, hle, hC⟩ := C_of_trod k38 Tryz.underlying36 nc38 n (show _ = some y1 from h1) fun m hm cs y => K38_of_trod m cs y
  obtain ⟨x, hK⟩ := K38_of_trod n _ _ (show _ = some y2 from h2)
  obtain ⟨u, e3, _, _⟩ := DataW.trod_int Tryz.underlying3 (show _ = some y3 from h3)
  obtain ⟨A5, c5, e2, l5, g5⟩ := k38_open hK
  simp at e0 e1 e2 e3
  obtain ⟨rfl, rfl, rfl, rfl⟩ := e2
  subst e0 e1 e3
  exact ⟨⟨s, l, x, u⟩, k40_mk w ⟨s, l, x, u⟩ hle hC l5 g5⟩
theorem Kb_of_trod (fuel : Nat) (cs : List Value) (y : DataW H × List MemPlace) (h : DataW.trod enc Tryz.prog w 0 sp held fuel 4 cs = some y) : ∃ x, Kd.bool.K w x cs := by
  obtain ⟨b, e, _⟩ := DataW.trod_bool Tryz.underlying4 h
  exact ⟨b, e⟩
end
end Go.Proofs.YtdcdfahhlfeifaaGreatDoor.Q

end
section
namespace Go.Proofs.YtdcdfahhlfeifaaGreatDoor.Q
open Go.ChangeShapes Go.WideShapes Go.ChangeAt Go.RowKit
open Go.Proofs.YtdcdfahhlfeifaaGreatDoorW.PrintWords Go.Proofs.YtdcdfahhlfeifaaGreatDoorW.PrintLast Go.Proofs.YtdcdfahhlfeifaaGreatDoorW.PrintMore
set_option linter.unusedVariables false
theorem own : ownKnob Tryz.prog.godebug = none := by kernel_rfl
theorem gPow : Tryz.prog.globalNamed "internal/strconv.uint64pow10" = some 0 := by kernel_rfl
theorem tPow : (Tryz.prog.globals[0]?).map (·.type) = some 200 := by kernel_rfl
theorem c200 : Tryz.prog.cellsOf 200 = 20 := by kernel_rfl
theorem c151 : Tryz.prog.cellsOf 151 = 1 := by kernel_rfl
abbrev laid : List (String × DataW Unit) := Rows.watchWrongRow.laid
theorem laid_eq : laid = [("math/bits.deBruijn32tab", Rows.laid_math_bits_deBruijn32tab), ("math/bits.deBruijn64tab", Rows.laid_math_bits_deBruijn64tab), ("internal/strconv.uint64pow10", Lib.tabData .u64 Lib.pow10Tab)] := rfl
theorem tab_of_laid {W : World} (h : laidMetH Tryz.prog laid W) : Tab W := by
  rw [MakeChecks.laidMetH_plain _ _ _ (by kernel_rfl), laid_eq] at h
  exact Lib.tabIs_of_head gPow tPow Tryz.underlying200 Tryz.underlying151 c151 c200 h.tail.tail
theorem door_met (os : Os) (args : Array Value) : laidMetH Tryz.prog laid ((World.doorLaid Tryz.prog 400 os).forCall (fun _ _ => 0) ⟨#[], args, []⟩).memory :=
  laidMetH_of_parts3 (fuel := 8) (laidMet_of_run' 8 (by as_aux_lemma => kernel_rfl) (by as_aux_lemma => kernel_rfl)) (by as_aux_lemma => kernel_rfl) (by as_aux_lemma => kernel_rfl)
set_option maxRecDepth 100000 in
theorem lifted (os : Os) (started : os.Started) (H : Type) (enc : TypeId × Value → H) :
    ReturnsInHanded {} Tryz.checked os 3 .any (fun w args => (Rows.watchWrongSpec.pre enc Tryz.prog Tryz.f3 [] false w args ∧ laidMetH Tryz.prog laid w) ∧ sizedMet enc Tryz.prog Tryz.f3 (OpenSpec.ofChange Rows.watchWrongSpec) false w args)
      (Rows.watchWrongSpec.post enc Tryz.prog Tryz.f3 false true false false) := by
  refine returnsInHanded_of_change_and (C := Tryz.checked) (X := fun w _ => laidMetH Tryz.prog laid w) (fun _ _ _ hh h => h.of_heap hh) own started (by as_aux_lemma => kernel_rfl) Tryz.func3
    (ChangeSpec.witness_shaped (enc := enc) (C := Tryz.checked) (os := os) (X := fun w _ => laidMetH Tryz.prog laid w) false (World.doorLaid Tryz.prog 400 os) #[.slice none 0 0, .int .i64 0, .slice none 0 0] 8 rfl (World.shaped_of_RefB (by as_aux_lemma => kernel_rfl) (by as_aux_lemma => kernel_rfl)) (by as_aux_lemma => kernel_rfl) (by as_aux_lemma => kernel_rfl) (by as_aux_lemma => kernel_rfl) (door_met os _)) ?_
  intro W base args ds gs before hval0 hW _ _ hL _
  have hval : ∀ (j : Nat) t v, Tryz.f3.params[j]? = some t → args[j]? = some v → Value.okWide Tryz.prog W .any base t v := hval0
  have hW' := hW
  obtain ⟨p, q, hA0, hV, rfl, hfz, hnd⟩ := hW
  have hA : DataW.TrodAll enc Tryz.prog W 0 (fun _ => true) true Tryz.f3.params.toList args.toList ds p := hA0
  rw [Tryz.params3] at hA hval
  obtain ⟨v0, vs0, d0, ds0, p0, q0, hargs, rfl, rfl, h0, r0⟩ := trodAll_cons hA
  obtain ⟨v1, vs1, d1, ds1, p1, q1, rfl, rfl, rfl, h1, r1⟩ := trodAll_cons r0
  obtain ⟨v2, vs2, d2, ds2, p2, q2, rfl, rfl, rfl, h2, r2⟩ := trodAll_cons r1
  obtain ⟨rfl, rfl, rfl⟩ := trodAll_nil r2
  obtain rfl : args = #[v0, v1, v2] := by cases args; simp_all
  obtain ⟨rfl, rfl⟩ := trodVars_none hV
  obtain ⟨a0, len0, cap0, rfl⟩ := okWide_slice Tryz.underlying22 (hval 0 22 v0 rfl rfl)
  obtain ⟨a1, rfl, rfl, rfl, w1⟩ := open_int Tryz.underlying3 (hval 1 3 v1 rfl rfl) h1
  obtain ⟨a2, len2, cap2, rfl⟩ := okWide_slice Tryz.underlying23 (hval 2 23 v2 rfl rfl)
  have k0 := h0
  have lt0 : ∀ x ∈ p0, x.block < W.heap.size := by obtain ⟨m, hm⟩ := k0; exact DataW.trod_lt m _ _ _ hm
  have k2 := h2
  have lt2 : ∀ x ∈ p2, x.block < W.heap.size := by obtain ⟨m, hm⟩ := k2; exact DataW.trod_lt m _ _ _ hm
  obtain ⟨l0, hl0, hc0, hC0⟩ : ∃ l0 : List S40, l0.length = len0 ∧ len0 ≤ cap0 ∧ Kd.C k40 W a0 len0 l0 := by
    obtain ⟨fuel, hf⟩ := h0
    obtain ⟨A, n, c, xs, e, hl, hle, hC⟩ := C_of_trod k40 Tryz.underlying22 nc40 fuel hf fun m _ cs y => K40_of_trod m cs y
    simp [Value.cells] at e
    obtain ⟨rfl, rfl, rfl⟩ := e
    exact ⟨xs, hl, hle, hC⟩
  obtain ⟨l2, hl2, hc2, hC2⟩ : ∃ l2 : List Bool, l2.length = len2 ∧ len2 ≤ cap2 ∧ Kd.C Kd.bool W a2 len2 l2 := by
    obtain ⟨fuel, hf⟩ := h2
    obtain ⟨A, n, c, xs, e, hl, hle, hC⟩ := C_of_trod Kd.bool Tryz.underlying23 nc4 fuel hf fun m _ cs y => Kb_of_trod m cs y
    simp [Value.cells] at e
    obtain ⟨rfl, rfl, rfl⟩ := e
    exact ⟨xs, hl, hle, hC⟩
  subst hl0 hl2
  have hT := tab_of_laid hL
  obtain ⟨k, hk⟩ := law_evt l0 (fits40_of_C W l0 a0 hC0) a1 l2
  clear hA0 hval0
  refine (searchlightlaw23_WatchWrong.calls k a0 cap0 l0 a1 a2 cap2 l2 W hC0 hc0 hC2 hc2 hk hT).mono fun e W' ⟨he, bel⟩ => ?_
  subst he
  exact ⟨_, rfl, _, _, _, [], _, [], hW', trodAll_mk1 (shut_bool Tryz.underlying4 _), (trodAll_cons_mk (Below.trod laidOut (by as_aux_lemma => kernel_rfl) (of_decide_eq_true (by as_aux_lemma => kernel_rfl)) k0 bel lt0) (trodAll_cons_mk (shut_int Tryz.underlying3 w1) (trodAll_cons_mk (Below.trod laidOut (by as_aux_lemma => kernel_rfl) (of_decide_eq_true (by as_aux_lemma => kernel_rfl)) k2 bel lt2) trodAll_mk0))), rfl, bel.frame _, fun h => by cases h⟩
theorem over : Rows.watchWrongRow.holds Tryz.pinned (OpenSpec.ofChange Rows.watchWrongSpec) :=
  OpenClaim.holds_of_wide 3 Tryz.f3 rfl rfl rfl rfl rfl rfl rfl ⟨rfl, rfl, rfl, rfl, rfl⟩ rfl rfl rfl rfl rfl name3 Tryz.func3 facts3 instance3 wrapper3
    (fun os started H enc _ => lifted os started H enc)
theorem proved : Rows.WatchWrongSaid := over
end Go.Proofs.YtdcdfahhlfeifaaGreatDoor.Q

end
