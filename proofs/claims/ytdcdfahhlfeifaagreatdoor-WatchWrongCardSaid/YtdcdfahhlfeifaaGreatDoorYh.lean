/- The plain law: the statement's function is always true. -/
import Derived.Test.YtdcdfahhlfeifaaGreatDoorYb
import Derived.Test.YtdcdfahhlfeifaaGreatDoorYd
import Derived.Test.YtdcdfahhlfeifaaGreatDoorYf
import Derived.Test.YtdcdfahhlfeifaaGreatDoorYc
import Derived.Test.YtdcdfahhlfeifaaGreatDoorYg
section
namespace Go.Proofs.YtdcdfahhlfeifaaGreatDoor.Q
open Go.RowKit Go.Proofs.YtdcdfahhlfeifaaGreatDoorW.PrintWords Go.Proofs.YtdcdfahhlfeifaaGreatDoorW.PrintLast Go.Proofs.YtdcdfahhlfeifaaGreatDoorW.PrintMore
set_option linter.unusedVariables false
set_option linter.unusedSimpArgs false
theorem range_some (c : Int) (lo hi : Int) (b : Bool) (h : b = true ↔ lo ≤ c ∧ c ≤ hi) : (if c ≥ lo then some (decide (c ≤ hi)) else some false) = some b := by
  by_cases h1 : c ≥ lo
  · rw [if_pos h1]
    by_cases h2 : c ≤ hi
    · rw [decide_eq_true h2, h.2 ⟨h1, h2⟩]
    · rw [decide_eq_false h2]
      cases b with
      | false => rfl
      | true => exact absurd (h.1 rfl).2 h2
  · rw [if_neg h1]
    cases b with
    | false => rfl
    | true => exact absurd (h.1 rfl).1 h1
theorem r1_small (c : UInt8) : searchlightref01_IsSmallLetter.f (c.toNat : Int) = some (small c) := range_some _ _ _ _ (small_iff c)
theorem r1_great (c : UInt8) : searchlightref01_IsGreatLetter.f (c.toNat : Int) = some (great c) := range_some _ _ _ _ (great_iff c)
theorem r1_digit (c : UInt8) : searchlightref01_IsDigit.f (c.toNat : Int) = some (digit c) := range_some _ _ _ _ (digit_iff c)
theorem low_beq (c : UInt8) : ((c.toNat : Int) == 95) = (c == 95) := by
  by_cases h : (c.toNat : Int) = 95
  · rw [(low_iff c).2 h]; exact beq_iff_eq.2 h
  · have : (c == 95) = false := by
      cases hc : (c == 95) with
      | false => rfl
      | true => exact absurd ((low_iff c).1 hc) h
    rw [this]; exact beq_eq_false_iff_ne.2 h
theorem tail_or (c : UInt8) : tailB c = (small c || great c || digit c || c == 95) := rfl
theorem r1_inner (c : UInt8) : searchlightref01_IsInner.f (c.toNat : Int) = some (tailB c) := by
  unfold searchlightref01_IsInner.f
  rw [r1_small, r1_great, r1_digit, low_beq, tail_or]
  cases small c <;> cases great c <;> cases digit c <;> simp
theorem r8_small (c : UInt8) : searchlightref08_isSmall.f (c.toNat : Int) = some (small c) := range_some _ _ _ _ (small_iff c)
theorem r8_great (c : UInt8) : searchlightref08_isGreat.f (c.toNat : Int) = some (great c) := range_some _ _ _ _ (great_iff c)
theorem r8_digit (c : UInt8) : searchlightref08_isDigit.f (c.toNat : Int) = some (digit c) := range_some _ _ _ _ (digit_iff c)
theorem r8_word (c : UInt8) : searchlightref08_isWord.f (c.toNat : Int) = some (tailB c) := by
  unfold searchlightref08_isWord.f
  rw [r8_small, r8_great, r8_digit, low_beq, tail_or]
  cases small c <;> cases great c <;> cases digit c <;> simp
theorem r1_tail_loop (s : ByteArray) (hs : s.size ≤ 16) (k : Nat) (hk : 17 < k) : searchlightref01_isTail.l0 k s 1 = some (((bs s).drop 1).all tailB) :=
  loop_all (searchlightref01_isTail.l0 · s) s tailB (fun k i h0 h => by
    show searchlightref01_isTail.l0 (k + 1) s i = _
    simp only [searchlightref01_isTail.l0]
    rw [if_pos h, if_pos h0, wrap_up h0 (by omega), bt_bs s i (by omega), r1_inner, Option.bind_some]) (fun k i h => by show searchlightref01_isTail.l0 (k + 1) s i = _; simp only [searchlightref01_isTail.l0]; rw [if_neg (by omega)]) 17 k 1 (by omega) (by omega) hk
theorem r1_word (s : ByteArray) : searchlightref01_IsWord.f s = some (words.contains (bs s)) := by
  unfold searchlightref01_IsWord.f
  rw [toList_bs]
  generalize bs s = l
  have key : ∀ (w : List UInt8) (b : Bool), (if l = w then some true else some b) = some (l == w || b) := by
    intro w b
    by_cases h : l = w
    · subst h; simp
    · have : (l == w) = false := by simpa using h
      rw [if_neg h, this, Bool.false_or]
  simp only [key]
  rfl
theorem r1_small_evt (s : ByteArray) : Evt (fun k => searchlightref01_IsSmall.f k s) (smallB (bs s)) := by
  refine ⟨20, fun k hk => ?_⟩
  have hz := size_bs s
  show searchlightref01_IsSmall.f k s = _
  unfold searchlightref01_IsSmall.f searchlightref01_isTail.f
  rw [toList_bs, r1_word]
  cases hb : bs s with
  | nil => rfl
  | cons c l =>
    rw [hb] at hz
    simp only [List.length_cons] at hz
    rw [if_neg (by simp), if_pos (by omega), bt_bs s 0 (by omega), hb]
    simp only [Int.toNat_zero, List.getD_cons_zero, r1_small, Option.bind_some, smallB, nameB]
    by_cases h16 : (s.size : Int) > 16
    · rw [if_pos h16, decide_eq_false (p := l.length ≤ 15) (by omega)]
      cases small c <;> simp
    · have hl := r1_tail_loop s (by omega) k (by omega)
      rw [hb] at hl
      simp only [List.drop_succ_cons, List.drop_zero] at hl
      rw [if_neg h16, hl, decide_eq_true (p := l.length ≤ 15) (by omega)]
      cases small c <;> cases l.all tailB <;> simp
theorem r3_loop (s : ByteArray) (hs : s.size ≤ 16) (k : Nat) (hk : 17 < k) : searchlightref03_IsCoreName.l0 k s 1 = some (((bs s).drop 1).all tailB) :=
  loop_all (searchlightref03_IsCoreName.l0 · s) s tailB (fun k i h0 h => by
    show searchlightref03_IsCoreName.l0 (k + 1) s i = _
    simp only [searchlightref03_IsCoreName.l0]
    rw [if_pos h, if_pos h0, wrap_up h0 (by omega), bt_bs s i (by omega), r1_inner, Option.bind_some]) (fun k i h => by show searchlightref03_IsCoreName.l0 (k + 1) s i = _; simp only [searchlightref03_IsCoreName.l0]; rw [if_neg (by omega)]) 17 k 1 (by omega) (by omega) hk
theorem lowB_eq (c : UInt8) (l : List UInt8) : lowB (c :: l) = (c == 95 && (l.all tailB && (decide (1 ≤ l.length) && decide (l.length ≤ 15)))) := by
  cases l with
  | nil => simp [lowB]
  | cons d l =>
    by_cases hc : c = 95
    · subst hc
      have h1 : decide (1 ≤ (d :: l).length) = true := decide_eq_true (by simp)
      have h2 : decide ((d :: l).length ≤ 15) = decide (l.length ≤ 14) := decide_eq_decide.2 (by simp)
      rw [h1, h2]
      simp [lowB]
    · have hn : (c == 95) = false := beq_eq_false_iff_ne.2 hc
      rw [hn, Bool.false_and]
      unfold lowB
      split
      · rename_i h; first | (simp at h; done) | (simp at h; exact absurd h.1 hc)
      · rfl
theorem low_bne (c : UInt8) : ((c.toNat : Int) != 95) = !(c == 95) := by
  unfold bne; rw [low_beq]
theorem r3_core_evt (s : ByteArray) : Evt (fun k => searchlightref03_IsCoreName.f k s) (coreB (bs s)) := by
  obtain ⟨k0, h0⟩ := r1_small_evt s
  refine ⟨k0 + 30, fun k hk => ?_⟩
  have hz := size_bs s
  have h0 : searchlightref01_IsSmall.f k s = some (smallB (bs s)) := h0 k (by omega)
  obtain ⟨k, rfl⟩ : ∃ m, k = m + 1 := ⟨k - 1, by omega⟩
  show searchlightref03_IsCoreName.f (k + 1) s = _
  unfold searchlightref03_IsCoreName.f
  rw [h0, Option.bind_some]
  unfold coreB
  cases hsm : smallB (bs s) with
  | true => rw [if_pos rfl]; rfl
  | false =>
    rw [if_neg (by simp), Bool.false_or]
    cases hb : bs s with
    | nil =>
      rw [hb] at hz
      rw [if_pos (by simp at hz; omega)]
      simp [searchlightref03_IsCoreName.j0, lowB]
    | cons c l =>
      rw [hb] at hz
      simp only [List.length_cons] at hz
      rw [lowB_eq]
      by_cases h2 : (s.size : Int) < 2
      · rw [if_pos h2, decide_eq_false (p := 1 ≤ l.length) (by omega)]
        simp [searchlightref03_IsCoreName.j0]
      · rw [if_neg h2]
        by_cases h16 : (s.size : Int) > 16
        · rw [if_pos h16, decide_eq_false (p := l.length ≤ 15) (by omega)]
          simp [searchlightref03_IsCoreName.j0]
        · rw [if_neg h16, if_pos (by omega), bt_bs s 0 (by omega), hb]
          simp only [Int.toNat_zero, List.getD_cons_zero]
          have hl := r3_loop s (by omega) k (by omega)
          rw [hb] at hl
          simp only [List.drop_succ_cons, List.drop_zero] at hl
          rw [low_bne, decide_eq_true (p := 1 ≤ l.length) (by omega), decide_eq_true (p := l.length ≤ 15) (by omega)]
          simp only [searchlightref03_IsCoreName.j0]
          cases c == 95 with
          | true => rw [hl]; simp
          | false => simp
theorem r8_rest_loop (s : ByteArray) (hs : s.size ≤ 16) (k : Nat) (hk : 17 < k) : searchlightref08_rest.f k s 1 = some (((bs s).drop 1).all tailB) :=
  loop_all (searchlightref08_rest.l0 · s) s tailB (fun k i h0 h => by
    show searchlightref08_rest.l0 (k + 1) s i = _
    simp only [searchlightref08_rest.l0]
    rw [if_pos h, if_pos h0, wrap_up h0 (by omega), bt_bs s i (by omega), r8_word, Option.bind_some]) (fun k i h => by show searchlightref08_rest.l0 (k + 1) s i = _; simp only [searchlightref08_rest.l0]; rw [if_neg (by omega)]) 17 k 1 (by omega) (by omega) hk
theorem r8_great_evt (s : ByteArray) : Evt (fun k => searchlightref08_IsGreat.f k s) (nameB great (bs s)) := by
  refine ⟨20, fun k hk => ?_⟩
  have hz := size_bs s
  show searchlightref08_IsGreat.f k s = _
  unfold searchlightref08_IsGreat.f
  cases hb : bs s with
  | nil =>
    rw [hb] at hz
    rw [if_neg (by simp at hz; omega)]; rfl
  | cons c l =>
    rw [hb] at hz
    simp only [List.length_cons] at hz
    rw [if_pos (by omega)]
    by_cases h16 : (s.size : Int) ≤ 16
    · have hl := r8_rest_loop s (by omega) k (by omega)
      rw [hb] at hl
      simp only [List.drop_succ_cons, List.drop_zero] at hl
      rw [if_pos h16, if_pos (by omega), bt_bs s 0 (by omega), hb]
      simp only [Int.toNat_zero, List.getD_cons_zero, r8_great, Option.bind_some, nameB]
      rw [hl, decide_eq_true (p := l.length ≤ 15) (by omega)]
      cases great c <;> simp
    · rw [if_neg h16]
      simp only [nameB]
      rw [decide_eq_false (p := l.length ≤ 15) (by omega)]; simp
theorem r8_small_evt (s : ByteArray) : Evt (fun k => searchlightref08_IsSmall.f k s) (smallB (bs s)) := by
  refine ⟨40, fun k hk => ?_⟩
  have hz := size_bs s
  obtain ⟨k, rfl⟩ : ∃ m, k = m + 1 := ⟨k - 1, by omega⟩
  show searchlightref08_IsSmall.f (k + 1) s = _
  have hw : searchlightref08_IsSmall.l0 k s wordsBA 0 = some (!words.contains (bs s)) := by
    have := words_loop (fun k i => searchlightref08_IsSmall.l0 k s wordsBA i) wordsBA s (fun k i h => by
      show searchlightref08_IsSmall.l0 (k + 1) s wordsBA (i : Int) = _
      simp only [searchlightref08_IsSmall.l0]
      have hlen : wordsBA.length = 13 := rfl
      rw [if_pos (by omega), if_pos (by omega), wrap_up (by omega) (by omega), show rdOf ByteArray.empty wordsBA (i : Int) = wordsBA[i] by simp [rdOf, List.getD, h], toList_bs, toList_bs]
      rfl) (fun k i h => by show searchlightref08_IsSmall.l0 (k + 1) s wordsBA (i : Int) = _; simp only [searchlightref08_IsSmall.l0]; rw [if_neg (by omega)]) 13 k 0 (by decide) (by omega)
    simpa [wordsBA_bs] using this
  unfold searchlightref08_IsSmall.f
  simp only [searchlightref08_IsSmall.j0, searchlightref08_reserved.f, Option.bind_some, if_true]
  cases hb : bs s with
  | nil =>
    rw [hb] at hz
    rw [if_pos (by simp at hz; omega)]; rfl
  | cons c l =>
    rw [hb] at hz hw
    simp only [List.length_cons] at hz
    rw [if_neg (by omega)]
    by_cases h16 : (s.size : Int) > 16
    · rw [if_pos h16]
      simp only [smallB, nameB]
      rw [decide_eq_false (p := l.length ≤ 15) (by omega)]; simp
    · have hl := r8_rest_loop s (by omega) (k + 1) (by omega)
      rw [hb] at hl
      simp only [List.drop_succ_cons, List.drop_zero] at hl
      rw [if_neg h16, if_pos (by omega), bt_bs s 0 (by omega), hb]
      simp only [Int.toNat_zero, List.getD_cons_zero, r8_small, Option.bind_some, smallB, nameB]
      rw [hl, decide_eq_true (p := l.length ≤ 15) (by omega)]
      cases small c with
      | false => simp
      | true =>
        cases l.all tailB with
        | false => simp
        | true => simp only [Option.bind_some, Bool.not_true, Bool.false_eq_true, if_false, Bool.and_self, Bool.true_and, if_true]; exact hw
theorem r8_core_evt (s : ByteArray) : Evt (fun k => searchlightref08_IsCore.f k s) (coreB (bs s)) := by
  obtain ⟨k0, h0⟩ := r8_small_evt s
  refine ⟨k0 + 30, fun k hk => ?_⟩
  have hz := size_bs s
  have h0 : searchlightref08_IsSmall.f k s = some (smallB (bs s)) := h0 k (by omega)
  show searchlightref08_IsCore.f k s = _
  unfold searchlightref08_IsCore.f
  rw [h0, Option.bind_some]
  unfold coreB
  cases hsm : smallB (bs s) with
  | true => rw [if_pos rfl]; rfl
  | false =>
    rw [if_neg (by simp), Bool.false_or]
    cases hb : bs s with
    | nil =>
      rw [hb] at hz
      rw [if_neg (by simp at hz; omega)]; rfl
    | cons c l =>
      rw [hb] at hz
      simp only [List.length_cons] at hz
      rw [lowB_eq]
      by_cases h2 : (s.size : Int) ≥ 2
      · rw [if_pos h2]
        by_cases h16 : (s.size : Int) ≤ 16
        · have hl := r8_rest_loop s (by omega) k (by omega)
          rw [hb] at hl
          simp only [List.drop_succ_cons, List.drop_zero] at hl
          rw [if_pos h16, if_pos (by omega), bt_bs s 0 (by omega), hb]
          simp only [Int.toNat_zero, List.getD_cons_zero]
          rw [hl, decide_eq_true (p := 1 ≤ l.length) (by omega), decide_eq_true (p := l.length ≤ 15) (by omega)]
          by_cases hc : (c.toNat : Int) = 95
          · rw [if_pos hc, (low_iff c).2 hc]; simp
          · have : (c == 95) = false := by rw [← low_beq]; exact beq_eq_false_iff_ne.2 hc
            rw [if_neg hc, this]; simp
        · rw [if_neg h16, decide_eq_false (p := l.length ≤ 15) (by omega)]; simp
      · rw [if_neg h2, decide_eq_false (p := 1 ≤ l.length) (by omega)]; simp
theorem r8_node_evt (v : S38) : Evt (fun k => searchlightref08_isNode.f k v.f0 v.f1 v.f2 v.f3) (nodeB v) := by
  obtain ⟨k1, h1⟩ := r8_great_evt v.f1
  obtain ⟨k2, h2⟩ := r8_core_evt v.f1
  refine ⟨k1 + k2, fun k hk => ?_⟩
  have h1 : searchlightref08_IsGreat.f k v.f1 = _ := h1 k (by omega)
  have h2 : searchlightref08_IsCore.f k v.f1 = _ := h2 k (by omega)
  show searchlightref08_isNode.f k v.f0 v.f1 v.f2 v.f3 = _
  unfold searchlightref08_isNode.f nodeB
  rw [h1, h2, toList_bs, len_8]
  have hl0 : ((v.f3.length : Int) = 0) = (v.f3.length = 0) := propext (by omega)
  simp only [Option.bind_some]
  by_cases a1 : v.f0 = 1
  · rw [if_pos a1, if_pos a1]
    cases nameB great (bs v.f1) <;> by_cases b : v.f2 = 0 <;> simp [b]
  · rw [if_neg a1, if_neg a1]
    by_cases a2 : v.f0 = 2
    · rw [if_pos a2, if_neg (show ¬ v.f0 = 4 by omega), if_pos a2]
      by_cases b1 : bs v.f1 = [] <;> by_cases b2 : v.f3.length = 0 <;> by_cases b3 : v.f2 ≥ -1000000000 <;> by_cases b4 : v.f2 ≤ 1000000000 <;> simp [b1, b2, b3, b4, hl0]
    · rw [if_neg a2]
      by_cases a3 : v.f0 = 3
      · rw [if_pos a3, if_neg (show ¬ v.f0 = 4 by omega), if_neg a2, if_pos a3]
        by_cases b1 : bs v.f1 = [] <;> by_cases b2 : v.f3.length = 0 <;> by_cases b3 : v.f2 ≥ 0 <;> by_cases b4 : v.f2 ≤ 300 <;> simp [b1, b2, b3, b4, hl0]
      · rw [if_neg a3]
        by_cases a4 : v.f0 = 4
        · rw [if_pos a4, if_pos a4]
          cases coreB (bs v.f1) <;> by_cases b : v.f2 = 0 <;> simp [b]
        · rw [if_neg a4, if_neg a4, if_neg a2, if_neg a3]
end Go.Proofs.YtdcdfahhlfeifaaGreatDoor.Q

end
section
namespace Go.Proofs.YtdcdfahhlfeifaaGreatDoor.Q
open Go.RowKit Go.Proofs.YtdcdfahhlfeifaaGreatDoorW.PrintWords Go.Proofs.YtdcdfahhlfeifaaGreatDoorW.PrintLast Go.Proofs.YtdcdfahhlfeifaaGreatDoorW.PrintMore
set_option linter.unusedVariables false
set_option linter.unusedSimpArgs false
def MeasIs (r : Nat) (d n : Int) (v : S38) (q : Int × Int) : Prop :=
  d ≤ q.1 ∧ q.1 ≤ 41 ∧ n ≤ q.2 ∧ q.2 ≤ 301 ∧ (q.1 ≤ 40 ∧ q.2 ≤ 300 → deepF r v = false ∧ q.2 = n + cntF r v) ∧ (¬ (q.1 ≤ 40 ∧ q.2 ≤ 300) → deepF r v = true ∨ 300 < n + cntF r v)
theorem meas_loop (r : Nat) (d : Int) (hd : d + r = 40) (h1 : 1 ≤ d) (a : Int) (b : ByteArray) (c : Int) (l : List S38) (hl : l.length ≤ 9223372036854775807)
    (ih : ∀ x ∈ l, ∀ n : Int, 0 ≤ n → n ≤ 300 → ∃ q, Evt (fun k => searchlightref08_measure.f k x.f0 x.f1 x.f2 x.f3 (d + 1) n) q ∧ MeasIs r (d + 1) n x q) :
    ∀ (m i : Nat) (D N : Int), i ≤ l.length → l.length - i ≤ m → d ≤ D → D ≤ 41 → 0 ≤ N → N ≤ 301 →
      ∃ q, Evt (fun k => searchlightref08_measure.l0 k d N D (i : Int) a b c l) q ∧ D ≤ q.1 ∧ q.1 ≤ 41 ∧ N ≤ q.2 ∧ q.2 ≤ 301 ∧
        (q.1 ≤ 40 ∧ q.2 ≤ 300 → (∀ x ∈ l.drop i, deepF r x = false) ∧ q.2 = N + ((l.drop i).map (cntF r)).sum) ∧
        (¬ (q.1 ≤ 40 ∧ q.2 ≤ 300) → 40 < D ∨ (∃ x ∈ l.drop i, deepF r x = true) ∨ 300 < N + ((l.drop i).map (cntF r)).sum) := by
  intro m
  induction m with
  | zero =>
    intro i D N hi hm hD hD1 hN hN1
    refine ⟨(D, N), ?_, Int.le_refl _, hD1, Int.le_refl _, hN1, ?_⟩
    · refine Evt.congr (f := fun _ => some (D, N)) (Evt.of fun _ => rfl) fun k => ?_
      simp only [searchlightref08_measure.l0]; rw [if_neg (by omega)]
    · rw [List.drop_of_length_le (by omega)]; simp; omega
  | succ m ihm =>
    intro i D N hi hm hD hD1 hN hN1
    by_cases h : i < l.length
    · by_cases h3 : N ≤ 300
      · obtain ⟨t, ht, t1, t2, t3, t4, t5, t6⟩ := ih l[i] (List.getElem_mem h) N hN h3
        obtain ⟨q, hq, q1, q2, q3, q4, q5, q6⟩ := ihm (i + 1) (mx D t.1) t.2 (by omega) (by omega) (by unfold mx; split <;> omega) (by unfold mx; split <;> omega) (by omega) (by omega)
        have hmx : D ≤ mx D t.1 ∧ t.1 ≤ mx D t.1 ∧ (40 < mx D t.1 → 40 < D ∨ 40 < t.1) := by unfold mx; split <;> omega
        refine ⟨q, ?_, by omega, q2, by omega, q4, ?_⟩
        · refine Evt.call (G := fun k t => searchlightref08_measure.l0 k d t.2 (mx D t.1) (wrap64 ((i : Int) + 1)) a b c l) ht hq (fun k => ?_) fun k => ?_
          · simp only [searchlightref08_measure.l0]
            rw [if_pos (by omega), if_pos h3, if_pos (by omega), rd_T38_at l i h, wrap_up (i := d) (by omega) (by omega)]
          · rw [wrap_up (i := (i : Int)) (by omega) (by omega), show ((i + 1 : Nat) : Int) = (i : Int) + 1 by omega]
        · rw [List.drop_eq_getElem_cons h, List.map_cons, List.sum_cons]
          constructor
          · intro hs
            obtain ⟨s1, s2⟩ := q5 hs
            obtain ⟨u1, u2⟩ := t5 (by omega)
            refine ⟨fun x hx => ?_, by omega⟩
            rcases List.mem_cons.1 hx with rfl | hx
            · exact u1
            · exact s1 x hx
          · intro hs
            by_cases ho : t.1 ≤ 40 ∧ t.2 ≤ 300
            · obtain ⟨u1, u2⟩ := t5 ho
              rcases q6 hs with h4 | ⟨x, hx, hxd⟩ | h4
              · exact .inl (by omega)
              · exact .inr (.inl ⟨x, List.mem_cons_of_mem _ hx, hxd⟩)
              · exact .inr (.inr (by omega))
            · rcases t6 ho with h4 | h4
              · exact .inr (.inl ⟨_, List.mem_cons_self, h4⟩)
              · exact .inr (.inr (by omega))
      · refine ⟨(D, N), ?_, Int.le_refl _, hD1, Int.le_refl _, hN1, fun hs => absurd hs.2 h3, fun _ => .inr (.inr (by omega))⟩
        refine Evt.congr (f := fun _ => some (D, N)) (Evt.of fun _ => rfl) fun k => ?_
        simp only [searchlightref08_measure.l0]; rw [if_pos (by omega), if_neg h3]
    · refine ⟨(D, N), ?_, Int.le_refl _, hD1, Int.le_refl _, hN1, ?_⟩
      · refine Evt.congr (f := fun _ => some (D, N)) (Evt.of fun _ => rfl) fun k => ?_
        simp only [searchlightref08_measure.l0]; rw [if_neg (by omega)]
      · rw [List.drop_of_length_le (by omega)]; simp; omega
theorem meas_evt : ∀ (r : Nat) (d n : Int), d + r = 41 → 1 ≤ d → 0 ≤ n → n ≤ 300 → ∀ v : S38, fitsB v = true → ∃ q, Evt (fun k => searchlightref08_measure.f k v.f0 v.f1 v.f2 v.f3 d n) q ∧ MeasIs r d n v q
  | 0, d, n, hd, h1, hn, hn1, v, hf => by
    refine ⟨(d, n + 1), ?_, Int.le_refl _, by omega, by omega, by omega, fun h => by omega, fun _ => .inl rfl⟩
    refine ⟨2, fun k hk => ?_⟩
    obtain ⟨k, rfl⟩ : ∃ m, k = m + 2 := ⟨k - 2, by omega⟩
    simp only [searchlightref08_measure.f, searchlightref08_measure.j0]
    rw [if_pos (by omega), wrap_up hn (by omega)]; rfl
  | r + 1, d, n, hd, h1, hn, hn1, v, hf => by
    by_cases h3 : n + 1 > 300
    · refine ⟨(d, n + 1), ?_, Int.le_refl _, by omega, by omega, by omega, fun h => by omega, fun _ => .inr (by simp only [cntF]; omega)⟩
      refine ⟨2, fun k hk => ?_⟩
      obtain ⟨k, rfl⟩ : ∃ m, k = m + 2 := ⟨k - 2, by omega⟩
      simp only [searchlightref08_measure.f, searchlightref08_measure.j0]
      rw [if_neg (by omega), wrap_up hn (by omega), decide_eq_true h3]; rfl
    · obtain ⟨q, ⟨k0, hq⟩, q1, q2, q3, q4, q5, q6⟩ := meas_loop r d (by omega) h1 v.f0 v.f1 v.f2 v.f3 (fitsB_len hf) (fun x hx n hn hn1 => meas_evt r (d + 1) n (by omega) (by omega) hn hn1 x (fitsB_mem hf hx)) v.f3.length 0 d (n + 1) (by omega) (by omega) (Int.le_refl _) (by omega) (by omega) (by omega)
      rw [List.drop_zero] at q5 q6
      refine ⟨q, ⟨k0 + 2, fun k hk => ?_⟩, q1, q2, by omega, q4, ?_, ?_⟩
      · obtain ⟨k, rfl⟩ : ∃ m, k = m + 2 := ⟨k - 2, by omega⟩
        simp only [searchlightref08_measure.f, searchlightref08_measure.j0]
        rw [if_neg (by omega), wrap_up hn (by omega), decide_eq_false h3, if_neg (by simp)]
        exact hq k (by omega)
      · intro hs
        obtain ⟨s1, s2⟩ := q5 hs
        refine ⟨?_, by simp only [cntF]; omega⟩
        simp only [deepF, List.any_eq_false]
        intro x hx; rw [s1 x hx]; simp
      · intro hs
        rcases q6 hs with h4 | ⟨x, hx, hxd⟩ | h4
        · omega
        · exact .inl (by simp only [deepF, List.any_eq_true]; exact ⟨x, hx, hxd⟩)
        · exact .inr (by simp only [cntF]; omega)
theorem large_evt (v : S38) (hf : fitsB v = true) : Evt (fun k => searchlightref08_isLarge.f k v.f0 v.f1 v.f2 v.f3) (deepF 40 v || decide (300 < cntF 40 v)) := by
  obtain ⟨q, ⟨k0, hq⟩, q1, q2, q3, q4, q5, q6⟩ := meas_evt 40 1 0 (by omega) (by omega) (by omega) (by omega) v hf
  refine ⟨k0, fun k hk => ?_⟩
  show searchlightref08_isLarge.f k v.f0 v.f1 v.f2 v.f3 = _
  have hq := hq k hk
  simp only at hq
  unfold searchlightref08_isLarge.f
  rw [hq, Option.bind_some]
  by_cases h1 : q.1 > 40
  · rw [if_pos h1]
    rcases q6 (by omega) with h4 | h4
    · rw [h4]; rfl
    · rw [decide_eq_true (p := 300 < cntF 40 v) (by omega)]; simp
  · rw [if_neg h1]
    by_cases h2 : q.2 > 300
    · rw [decide_eq_true h2]
      rcases q6 (by omega) with h4 | h4
      · rw [h4]; rfl
      · rw [decide_eq_true (p := 300 < cntF 40 v) (by omega)]; simp
    · obtain ⟨s1, s2⟩ := q5 (by omega)
      rw [decide_eq_false h2, s1, decide_eq_false (p := 300 < cntF 40 v) (by omega)]; rfl
theorem value_loop (n : Nat) (a : Int) (b : ByteArray) (c : Int) (l : List S38) (hl : l.length ≤ 9223372036854775807) (ih : ∀ x ∈ l, Evt (fun k => searchlightref08_isValue.f k x.f0 x.f1 x.f2 x.f3) (rightF n x)) :
    ∀ (d i : Nat), i ≤ l.length → l.length - i ≤ d → Evt (fun k => searchlightref08_isValue.l0 k (i : Int) a b c l) ((l.drop i).all (rightF n))
  | 0, i, hi, hd => by
    rw [List.drop_of_length_le (by omega)]
    refine Evt.congr (f := fun _ => some true) (Evt.of fun _ => rfl) fun k => ?_
    simp only [searchlightref08_isValue.l0]; rw [if_neg (by omega)]
  | d + 1, i, hi, hd => by
    by_cases h : i < l.length
    · rw [List.drop_eq_getElem_cons h, List.all_cons]
      have hx := ih l[i] (List.getElem_mem h)
      cases hr : rightF n l[i] with
      | true =>
        rw [hr] at hx
        refine Evt.call (G := fun k t => if t = true then searchlightref08_isValue.l0 k (wrap64 ((i : Int) + 1)) a b c l else some false) hx (value_loop n a b c l hl ih d (i + 1) (by omega) (by omega)) (fun k => ?_) fun k => ?_
        · simp only [searchlightref08_isValue.l0]
          rw [if_pos (by omega), if_pos (by omega), rd_T38_at l i h]
        · simp only [if_true]
          rw [wrap_up (i := (i : Int)) (by omega) (by omega), show ((i + 1 : Nat) : Int) = (i : Int) + 1 by omega]
      | false =>
        rw [hr] at hx
        refine Evt.call (G := fun k t => if t = true then searchlightref08_isValue.l0 k (wrap64 ((i : Int) + 1)) a b c l else some false) (g := fun _ => some false) hx (Evt.of fun _ => rfl) (fun k => ?_) fun k => by simp
        simp only [searchlightref08_isValue.l0]
        rw [if_pos (by omega), if_pos (by omega), rd_T38_at l i h]
    · rw [List.drop_of_length_le (by omega)]
      refine Evt.congr (f := fun _ => some true) (Evt.of fun _ => rfl) fun k => ?_
      simp only [searchlightref08_isValue.l0]; rw [if_neg (by omega)]
theorem value_evt : ∀ (n : Nat) (v : S38), fitsB v = true → deepF n v = false → Evt (fun k => searchlightref08_isValue.f k v.f0 v.f1 v.f2 v.f3) (rightF n v)
  | 0, v, _, hd => by simp [deepF] at hd
  | n + 1, v, hf, hd => by
    have hn := r8_node_evt v
    have hk := value_loop n v.f0 v.f1 v.f2 v.f3 (fitsB_len hf) (fun x hx => value_evt n x (fitsB_mem hf hx) (deepF_kids hd x hx)) v.f3.length 0 (by omega) (by omega)
    simp only [rightF]
    rw [List.drop_zero] at hk
    cases hnb : nodeB v with
    | true =>
      rw [hnb] at hn
      exact Evt.call (G := fun k t => if t = true then searchlightref08_isValue.l0 k 0 v.f0 v.f1 v.f2 v.f3 else some false) hn (by simpa using hk) (fun k => by simp only [searchlightref08_isValue.f]) fun k => by simp
    | false =>
      rw [hnb] at hn
      exact Evt.call (G := fun k t => if t = true then searchlightref08_isValue.l0 k 0 v.f0 v.f1 v.f2 v.f3 else some false) (g := fun _ => some false) hn (Evt.of fun _ => rfl) (fun k => by simp only [searchlightref08_isValue.f]) fun k => by simp
theorem validate_evt (v : S38) (hf : fitsB v = true) : Evt (fun k => searchlightref08_Validate.f k v.f0 v.f1 v.f2 v.f3) (validF v) := by
  obtain ⟨k0, h0⟩ := large_evt v hf
  by_cases hd : deepF 40 v = true
  · refine ⟨k0, fun k hk => ?_⟩
    have h0 := h0 k hk
    simp only at h0
    show searchlightref08_Validate.f k v.f0 v.f1 v.f2 v.f3 = _
    unfold searchlightref08_Validate.f validF
    rw [h0, hd, if_pos rfl]; rfl
  · by_cases hc : 300 < cntF 40 v
    · refine ⟨k0, fun k hk => ?_⟩
      have h0 := h0 k hk
      simp only at h0
      show searchlightref08_Validate.f k v.f0 v.f1 v.f2 v.f3 = _
      unfold searchlightref08_Validate.f validF
      rw [h0, decide_eq_true hc, if_neg hd, if_pos hc, Bool.or_true]; rfl
    · rw [Bool.not_eq_true] at hd
      obtain ⟨k1, h1⟩ := value_evt 40 v hf hd
      refine ⟨k0 + k1, fun k hk => ?_⟩
      have h0 := h0 k (by omega)
      have h1 := h1 k (by omega)
      simp only at h0 h1
      show searchlightref08_Validate.f k v.f0 v.f1 v.f2 v.f3 = _
      unfold searchlightref08_Validate.f validF
      rw [h0, h1, hd, decide_eq_false hc, if_neg hc]
      cases rightF 40 v <;> rfl
end Go.Proofs.YtdcdfahhlfeifaaGreatDoor.Q

end
section
namespace Go.Proofs.YtdcdfahhlfeifaaGreatDoor.Q
open Go.RowKit Go.Proofs.YtdcdfahhlfeifaaGreatDoorW.PrintWords Go.Proofs.YtdcdfahhlfeifaaGreatDoorW.PrintLast Go.Proofs.YtdcdfahhlfeifaaGreatDoorW.PrintMore
set_option linter.unusedVariables false
set_option linter.unusedSimpArgs false
theorem rd40 (l : List S40) (i : Nat) (h : i < l.length) : rd_T40 l (i : Int) = l[i] := by simp [rd_T40, List.getD, h]
theorem ups_neg' (l : List S40) (n : Nat) (k : Int) (h : k < 0) : ups l n k = some 0 := by
  cases n <;> simp [ups, h]
theorem ups_succ (l : List S40) (n : Nat) (k : Int) (h : 0 ≤ k) : ups l (n + 1) k = (ups l n (rd_T40 l k).f3).map (· + 1) := by
  simp only [ups]; rw [if_neg (by omega)]
theorem ups_more (l : List S40) : ∀ (n n' : Nat) (k : Int) (m : Nat), ups l n k = some m → n ≤ n' → ups l n' k = some m
  | n, n', k, m, h, hn => by
    by_cases hk : k < 0
    · rw [ups_neg' l n k hk] at h; rw [ups_neg' l n' k hk]; exact h
    · obtain ⟨n0, m0, rfl, rfl, h0⟩ := ups_pos l n k m (by omega) h
      obtain ⟨n1, rfl⟩ : ∃ x, n' = x + 1 := ⟨n' - 1, by omega⟩
      rw [ups_succ l n1 k (by omega), ups_more l n0 n1 _ m0 h0 (by omega)]; rfl
theorem ups_det (l : List S40) (n n' : Nat) (k : Int) (m m' : Nat) (h : ups l n k = some m) (h' : ups l n' k = some m') : m = m' := by
  have h1 := ups_more l n (n + n') k m h (by omega)
  have h2 := ups_more l n' (n + n') k m' h' (by omega)
  rw [h1] at h2; exact Option.some.inj h2
def chain (l : List S40) : Nat → Int → List Int
  | 0, _ => []
  | m + 1, k => k :: chain l m (rd_T40 l k).f3
theorem chain_len (l : List S40) : ∀ (m : Nat) (k : Int), (chain l m k).length = m
  | 0, _ => rfl
  | m + 1, k => by simp [chain, chain_len l m]
theorem chain_mem (l : List S40) (hc : ∀ k : Int, 0 ≤ k → k < l.length → -1 ≤ (rd_T40 l k).f3 ∧ (rd_T40 l k).f3 < l.length) : ∀ (m n : Nat) (k : Int), ups l n k = some m → k < l.length → ∀ x ∈ chain l m k, (0 ≤ x ∧ x < l.length) ∧ ∃ n' j, ups l n' x = some j ∧ j ≤ m
  | 0, _, _, _, _, x, hx => by cases hx
  | m + 1, n, k, h, hk, x, hx => by
    by_cases hk0 : k < 0
    · rw [ups_neg' l n k hk0] at h; cases h
    · obtain ⟨n0, m0, rfl, h1, h0⟩ := ups_pos l n k (m + 1) (by omega) h
      obtain rfl : m = m0 := by omega
      rcases List.mem_cons.1 hx with rfl | hx
      · exact ⟨⟨by omega, hk⟩, _, _, h, Nat.le_refl _⟩
      · obtain ⟨a, n', j, b, c⟩ := chain_mem l hc m n0 _ h0 (hc k (by omega) hk).2 x hx
        exact ⟨a, n', j, b, by omega⟩
theorem chain_nodup (l : List S40) (hc : ∀ k : Int, 0 ≤ k → k < l.length → -1 ≤ (rd_T40 l k).f3 ∧ (rd_T40 l k).f3 < l.length) : ∀ (m n : Nat) (k : Int), ups l n k = some m → k < l.length → (chain l m k).Nodup
  | 0, _, _, _, _ => List.nodup_nil
  | m + 1, n, k, h, hk => by
    by_cases hk0 : k < 0
    · rw [ups_neg' l n k hk0] at h; cases h
    · obtain ⟨n0, m0, rfl, h1, h0⟩ := ups_pos l n k (m + 1) (by omega) h
      obtain rfl : m = m0 := by omega
      have hlt := (hc k (by omega) hk).2
      simp only [chain]
      refine List.nodup_cons.2 ⟨fun hx => ?_, chain_nodup l hc m n0 _ h0 hlt⟩
      obtain ⟨_, n', j, b, c⟩ := chain_mem l hc m n0 _ h0 hlt k hx
      have := ups_det l _ _ k _ _ h b
      omega
theorem pigeon : ∀ (n : Nat) (L : List Int), L.Nodup → (∀ x ∈ L, 0 ≤ x ∧ x < n) → L.length ≤ n
  | 0, L, _, h => by
    cases L with
    | nil => simp
    | cons a L => have := h a (by simp); omega
  | n + 1, L, hn, h => by
    by_cases hm : (n : Int) ∈ L
    · have h1 := pigeon n (L.erase (n : Int)) (hn.erase _) fun x hx => by
        have h2 := (hn.mem_erase_iff).1 hx
        have := h x h2.2
        have := h2.1
        omega
      rw [List.length_erase_of_mem hm] at h1
      omega
    · have := pigeon n L hn fun x hx => by
        have h2 := h x hx
        have : x ≠ n := fun e => hm (e ▸ hx)
        omega
      omega
theorem sights_up {l : List S40} (h : l.all (sightB l.length) = true) : ∀ k : Int, 0 ≤ k → k < l.length → -1 ≤ (rd_T40 l k).f3 ∧ (rd_T40 l k).f3 < l.length :=
  fun k h0 h1 => sightB_up (rd_all _ l k h0 h1 h)
theorem height_le {l : List S40} (h : l.all (sightB l.length) = true) {n m : Nat} {k : Int} (hu : ups l n k = some m) (hk : k < l.length) : m ≤ l.length := by
  have hc := sights_up h
  have := pigeon l.length (chain l m k) (chain_nodup l hc m n k hu hk) fun x hx => (chain_mem l hc m n k hu hk x hx).1
  rwa [chain_len] at this
theorem depth_some (l : List S40) (hl : l.length ≤ 400) (hc : ∀ k : Int, 0 ≤ k → k < l.length → -1 ≤ (rd_T40 l k).f3 ∧ (rd_T40 l k).f3 < l.length) : ∀ (m F : Nat) (x n : Int), 0 ≤ x → x < l.length → 0 ≤ n → ups l F (rd_T40 l x).f3 = some m → n + m ≤ l.length → Evt (fun k => searchlightref23_depth.l0 k l x n) (n + m)
  | 0, F, x, n, h0, h1, hn, hu, hs => by
    have hneg : (rd_T40 l x).f3 < 0 := by
      rcases Int.lt_or_le (rd_T40 l x).f3 0 with h | h
      · exact h
      · obtain ⟨_, _, _, h2, _⟩ := ups_pos l F _ 0 h hu; omega
    refine Evt.congr (f := fun _ => some (n + (0 : Nat))) (Evt.of fun _ => rfl) fun k => ?_
    simp only [searchlightref23_depth.l0]
    rw [if_pos h0, if_pos h1, if_neg (by omega)]; simp
  | m + 1, F, x, n, h0, h1, hn, hu, hs => by
    have hpos : 0 ≤ (rd_T40 l x).f3 := by
      rcases Int.lt_or_le (rd_T40 l x).f3 0 with h | h
      · rw [ups_neg' l F _ h] at hu; cases hu
      · exact h
    obtain ⟨F0, m0, rfl, hm, hu0⟩ := ups_pos l F _ (m + 1) hpos hu
    obtain rfl : m = m0 := by omega
    have ih := depth_some l hl hc m F0 (rd_T40 l x).f3 (n + 1) hpos (hc x h0 h1).2 (by omega) hu0 (by omega)
    rw [show n + ((m + 1 : Nat) : Int) = n + 1 + (m : Int) by omega]
    refine Evt.congr ih fun k => ?_
    simp only [searchlightref23_depth.l0]
    rw [if_pos h0, if_pos h1, if_pos hpos, wrap_up hn (by omega), if_neg (by omega)]
theorem depth_none (l : List S40) (hl : l.length ≤ 400) (hc : ∀ k : Int, 0 ≤ k → k < l.length → -1 ≤ (rd_T40 l k).f3 ∧ (rd_T40 l k).f3 < l.length) : ∀ (F : Nat) (x n : Int), 0 ≤ x → x < l.length → 0 ≤ n → n ≤ l.length → ups l F (rd_T40 l x).f3 = none → l.length ≤ n + F → Evt (fun k => searchlightref23_depth.l0 k l x n) (-1)
  | F, x, n, h0, h1, hn, hn1, hu, hs => by
    have hpos : 0 ≤ (rd_T40 l x).f3 := by
      rcases Int.lt_or_le (rd_T40 l x).f3 0 with h | h
      · rw [ups_neg' l F _ h] at hu; cases hu
      · exact h
    by_cases hN : n + 1 > l.length
    · refine Evt.congr (f := fun _ => some (-1)) (Evt.of fun _ => rfl) fun k => ?_
      simp only [searchlightref23_depth.l0]
      rw [if_pos h0, if_pos h1, if_pos hpos, wrap_up hn (by omega), if_pos hN]
    · cases F with
      | zero => omega
      | succ F =>
        have hu0 : ups l F (rd_T40 l (rd_T40 l x).f3).f3 = none := by
          rw [ups_succ l F _ hpos] at hu
          cases h : ups l F (rd_T40 l (rd_T40 l x).f3).f3 with
          | none => rfl
          | some j => rw [h] at hu; cases hu
        have ih := depth_none l hl hc F (rd_T40 l x).f3 (n + 1) hpos (hc x h0 h1).2 (by omega) (by omega) hu0 (by omega)
        refine Evt.congr ih fun k => ?_
        simp only [searchlightref23_depth.l0]
        rw [if_pos h0, if_pos h1, if_pos hpos, wrap_up hn (by omega), if_neg hN]
theorem depth_evt (l : List S40) (hl : l.length ≤ 400) (ha : l.all (sightB l.length) = true) (i : Nat) (hi : i < l.length) :
    Evt (fun k => searchlightref23_depth.f k l (i : Int)) (match ups l (l.length + 1) l[i].f3 with | some m => (m : Int) | none => -1) := by
  have hc := sights_up ha
  have hr := rd40 l i hi
  cases hu : ups l (l.length + 1) l[i].f3 with
  | some m =>
    have hm := height_le ha hu (by rw [← hr]; exact (hc i (by omega) (by omega)).2)
    have := depth_some l hl hc m (l.length + 1) i 0 (by omega) (by omega) (by omega) (by rw [hr]; exact hu) (by omega)
    rw [Int.zero_add] at this
    exact this
  | none =>
    exact depth_none l hl hc (l.length + 1) i 0 (by omega) (by omega) (by omega) (by omega) (by rw [hr]; exact hu) (by omega)
theorem right_l3 (l : List S40) (hl : l.length ≤ 400) (hf : l.all fits40 = true) (ha : l.all (sightB l.length) = true) : ∀ (d i : Nat), i ≤ l.length → l.length - i ≤ d → Evt (fun k => searchlightref23_Right.l2 k l (i : Int)) (firstErr ((l.drop i).flatMap fun s => s.f1 ++ [s.f2]))
  | 0, i, hi, hd => by
    rw [List.drop_of_length_le (by omega)]
    refine Evt.congr (f := fun _ => some 0) (Evt.of fun _ => rfl) fun k => ?_
    simp only [searchlightref23_Right.l2]; rw [if_neg (by omega)]
  | d + 1, i, hi, hd => by
    by_cases h : i < l.length
    · have hr := rd40 l i h
      have ih := right_l3 l hl hf ha d (i + 1) (by omega) (by omega)
      have hfi := List.all_eq_true.1 hf _ (List.getElem_mem h)
      have hai := sightB_args (List.all_eq_true.1 ha _ (List.getElem_mem h))
      unfold fits40 at hfi
      simp only [Bool.and_eq_true, decide_eq_true_eq] at hfi
      rw [List.drop_eq_getElem_cons h, List.flatMap_cons]
      have hinner : ∀ (e j : Nat), j ≤ l[i].f1.length → l[i].f1.length - j ≤ e → Evt (fun k => searchlightref23_Right.l3 k l (i : Int) (j : Int)) (firstErr ((l[i].f1.drop j ++ [l[i].f2]) ++ (l.drop (i + 1)).flatMap fun s => s.f1 ++ [s.f2])) := by
        intro e
        induction e with
        | zero =>
          intro j hj he
          rw [List.drop_of_length_le (by omega)]
          have hv := validate_evt l[i].f2 hfi.2
          simp only [List.nil_append, List.cons_append, firstErr]
          by_cases h0 : validF l[i].f2 = 0
          · rw [if_pos h0]
            refine Evt.call (G := fun k t => if t = 0 then searchlightref23_Right.l2 k l (wrap64 ((i : Int) + 1)) else some t) hv ih (fun k => ?_) fun k => ?_
            · simp only [searchlightref23_Right.l3]
              rw [if_pos (by omega), if_pos (by omega), hr, if_neg (by omega)]
            · rw [if_pos h0, wrap_up (i := (i : Int)) (by omega) (by omega), show ((i + 1 : Nat) : Int) = (i : Int) + 1 by omega]
          · rw [if_neg h0]
            refine Evt.call (G := fun k t => if t = 0 then searchlightref23_Right.l2 k l (wrap64 ((i : Int) + 1)) else some t) (g := fun _ => some (validF l[i].f2)) hv (Evt.of fun _ => rfl) (fun k => ?_) fun k => by rw [if_neg h0]
            simp only [searchlightref23_Right.l3]
            rw [if_pos (by omega), if_pos (by omega), hr, if_neg (by omega)]
        | succ e ihe =>
          intro j hj he
          by_cases hlt : j < l[i].f1.length
          · have hv := validate_evt l[i].f1[j] (fitsL_mem hfi.1.2 (List.getElem_mem hlt))
            rw [List.drop_eq_getElem_cons hlt]
            simp only [List.cons_append, firstErr]
            by_cases h0 : validF l[i].f1[j] = 0
            · rw [if_pos h0]
              have ih2 := ihe (j + 1) (by omega) (by omega)
              simp only [List.append_assoc, List.cons_append, List.nil_append] at ih2 ⊢
              refine Evt.call (G := fun k t => if t = 0 then searchlightref23_Right.l3 k l (i : Int) (wrap64 ((j : Int) + 1)) else some t) hv ih2 (fun k => ?_) fun k => ?_
              · simp only [searchlightref23_Right.l3]
                rw [if_pos (by omega), if_pos (by omega), hr, if_pos (by omega), if_pos (by omega), rd_T38_at _ j hlt]
              · rw [if_pos h0, wrap_up (i := (j : Int)) (by omega) (by omega), show ((j + 1 : Nat) : Int) = (j : Int) + 1 by omega]
            · rw [if_neg h0]
              refine Evt.call (G := fun k t => if t = 0 then searchlightref23_Right.l3 k l (i : Int) (wrap64 ((j : Int) + 1)) else some t) (g := fun _ => some (validF l[i].f1[j])) hv (Evt.of fun _ => rfl) (fun k => ?_) fun k => by rw [if_neg h0]
              simp only [searchlightref23_Right.l3]
              rw [if_pos (by omega), if_pos (by omega), hr, if_pos (by omega), if_pos (by omega), rd_T38_at _ j hlt]
          · rw [List.drop_of_length_le (by omega)]
            have hv := validate_evt l[i].f2 hfi.2
            simp only [List.nil_append, List.cons_append, firstErr]
            by_cases h0 : validF l[i].f2 = 0
            · rw [if_pos h0]
              refine Evt.call (G := fun k t => if t = 0 then searchlightref23_Right.l2 k l (wrap64 ((i : Int) + 1)) else some t) hv ih (fun k => ?_) fun k => ?_
              · simp only [searchlightref23_Right.l3]
                rw [if_pos (by omega), if_pos (by omega), hr, if_neg (by omega)]
              · rw [if_pos h0, wrap_up (i := (i : Int)) (by omega) (by omega), show ((i + 1 : Nat) : Int) = (i : Int) + 1 by omega]
            · rw [if_neg h0]
              refine Evt.call (G := fun k t => if t = 0 then searchlightref23_Right.l2 k l (wrap64 ((i : Int) + 1)) else some t) (g := fun _ => some (validF l[i].f2)) hv (Evt.of fun _ => rfl) (fun k => ?_) fun k => by rw [if_neg h0]
              simp only [searchlightref23_Right.l3]
              rw [if_pos (by omega), if_pos (by omega), hr, if_neg (by omega)]
      have := hinner l[i].f1.length 0 (by omega) (by omega)
      rw [List.drop_zero] at this
      refine Evt.congr this fun k => ?_
      simp only [searchlightref23_Right.l2]; rw [if_pos (by omega)]; rfl
    · rw [List.drop_of_length_le (by omega)]
      refine Evt.congr (f := fun _ => some 0) (Evt.of fun _ => rfl) fun k => ?_
      simp only [searchlightref23_Right.l2]; rw [if_neg (by omega)]
theorem right_l1 (l : List S40) (hl : l.length ≤ 400) (ha : l.all (sightB l.length) = true) (r : Int) (hr : Evt (fun k => searchlightref23_Right.l2 k l 0) r) : ∀ (d i : Nat), i ≤ l.length → l.length - i ≤ d → Evt (fun k => searchlightref23_Right.l1 k l (i : Int)) (if (l.drop i).all (fun s => (ups l (l.length + 1) s.f3).isSome) then r else 1)
  | 0, i, hi, hd => by
    rw [List.drop_of_length_le (by omega), List.all_nil, if_pos rfl]
    refine Evt.congr hr fun k => ?_
    simp only [searchlightref23_Right.l1]; rw [if_neg (by omega)]
  | d + 1, i, hi, hd => by
    by_cases h : i < l.length
    · have ih := right_l1 l hl ha r hr d (i + 1) (by omega) (by omega)
      have hdp := depth_evt l hl ha i h
      rw [List.drop_eq_getElem_cons h, List.all_cons]
      cases hu : ups l (l.length + 1) l[i].f3 with
      | some m =>
        rw [hu] at hdp
        refine Evt.call (G := fun k t => if t < 0 then some 1 else searchlightref23_Right.l1 k l (wrap64 ((i : Int) + 1))) hdp (by simpa using ih) (fun k => ?_) fun k => ?_
        · simp only [searchlightref23_Right.l1]; rw [if_pos (by omega)]
        · rw [if_neg (by simp only []; omega), wrap_up (i := (i : Int)) (by omega) (by omega)]
      | none =>
        rw [hu] at hdp
        rw [if_neg (by simp)]
        refine Evt.call (G := fun k t => if t < 0 then some 1 else searchlightref23_Right.l1 k l (wrap64 ((i : Int) + 1))) (g := fun _ => some 1) hdp (Evt.of fun _ => rfl) (fun k => ?_) fun k => by rw [if_pos (by decide)]
        simp only [searchlightref23_Right.l1]; rw [if_pos (by omega)]
    · rw [List.drop_of_length_le (by omega), List.all_nil, if_pos rfl]
      refine Evt.congr hr fun k => ?_
      simp only [searchlightref23_Right.l1]; rw [if_neg (by omega)]
theorem right_l0 (l : List S40) (hl : l.length ≤ 400) (r : Int) (hr : l.all (sightB l.length) = true → Evt (fun k => searchlightref23_Right.l1 k l 0) r) : ∀ (d i : Nat), i ≤ l.length → l.length - i ≤ d → (l.take i).all (sightB l.length) = true → Evt (fun k => searchlightref23_Right.l0 k l (i : Int)) (if (l.drop i).all (sightB l.length) then r else 1)
  | 0, i, hi, hd, ht => by
    rw [List.drop_of_length_le (by omega), List.all_nil, if_pos rfl]
    rw [List.take_of_length_le (by omega)] at ht
    refine Evt.congr (hr ht) fun k => ?_
    simp only [searchlightref23_Right.l0]; rw [if_neg (by omega)]
  | d + 1, i, hi, hd, ht => by
    by_cases h : i < l.length
    · have hrd := rd40 l i h
      obtain ⟨k0, hcn⟩ := r3_core_evt l[i].f0
      have hsb : sightB l.length l[i] = (coreB (bs l[i].f0) && decide (-1 ≤ l[i].f3) && decide (l[i].f3 < l.length) && decide (l[i].f1.length ≤ 8)) := rfl
      rw [List.drop_eq_getElem_cons h, List.all_cons]
      cases hs : sightB l.length l[i] with
      | true =>
        have ih := right_l0 l hl r hr d (i + 1) (by omega) (by omega) (by rw [List.take_succ_eq_append_getElem h, List.all_append, ht]; simp [hs])
        rw [hs] at hsb
        have hsb := hsb.symm
        simp only [Bool.and_eq_true, decide_eq_true_eq] at hsb
        obtain ⟨⟨⟨e1, e2⟩, e3⟩, e4⟩ := hsb
        obtain ⟨k1, ih⟩ := ih
        refine ⟨k0 + k1 + 1, fun k hk => ?_⟩
        obtain ⟨k, rfl⟩ : ∃ m, k = m + 1 := ⟨k - 1, by omega⟩
        have hcn := hcn k (by omega)
        have ih := ih k (by omega)
        simp only at hcn ih
        show searchlightref23_Right.l0 (k + 1) l (i : Int) = _
        simp only [searchlightref23_Right.l0]
        rw [if_pos (by omega), if_pos (by omega), hrd, hcn, Option.bind_some, e1, if_pos rfl, if_neg (by omega), if_neg (by omega), if_neg (by omega), wrap_up (i := (i : Int)) (by omega) (by omega), show (i : Int) + 1 = ((i + 1 : Nat) : Int) by omega, ih, Bool.true_and]
      | false =>
        rw [Bool.false_and, if_neg (by simp)]
        refine ⟨k0 + 1, fun k hk => ?_⟩
        obtain ⟨k, rfl⟩ : ∃ m, k = m + 1 := ⟨k - 1, by omega⟩
        have hcn := hcn k (by omega)
        simp only at hcn
        rw [hs] at hsb
        show searchlightref23_Right.l0 (k + 1) l (i : Int) = _
        simp only [searchlightref23_Right.l0]
        rw [if_pos (by omega), if_pos (by omega), hrd, hcn, Option.bind_some]
        by_cases e1 : coreB (bs l[i].f0) = true
        · rw [if_pos e1]
          by_cases e2 : l[i].f3 < -1
          · rw [if_pos e2]
          · rw [if_neg e2]
            by_cases e3 : l[i].f3 ≥ (l.length : Int)
            · rw [if_pos e3]
            · rw [if_neg e3]
              by_cases e4 : (l[i].f1.length : Int) > 8
              · rw [if_pos e4]
              · rw [e1, decide_eq_true (p := -1 ≤ l[i].f3) (by omega), decide_eq_true (p := l[i].f3 < l.length) (by omega), decide_eq_true (p := l[i].f1.length ≤ 8) (by omega)] at hsb
                cases hsb
        · rw [if_neg e1]
    · rw [List.drop_of_length_le (by omega), List.all_nil, if_pos rfl]
      rw [List.take_of_length_le (by omega)] at ht
      refine Evt.congr (hr ht) fun k => ?_
      simp only [searchlightref23_Right.l0]; rw [if_neg (by omega)]
theorem right_evt (l : List S40) (hf : l.all fits40 = true) : Evt (fun k => searchlightref23_Right.f k l) (sightsF l) := by
  by_cases hl : l.length ≤ 400
  · have h0 := right_l0 l hl (if (l.all fun s => (ups l (l.length + 1) s.f3).isSome) then firstErr (l.flatMap fun s => s.f1 ++ [s.f2]) else 1) (fun ha => by
      have h3 := right_l3 l hl hf ha l.length 0 (by omega) (by omega)
      rw [List.drop_zero] at h3
      have h1 := right_l1 l hl ha _ h3 l.length 0 (by omega) (by omega)
      rwa [List.drop_zero] at h1) l.length 0 (by omega) (by omega) rfl
    rw [List.drop_zero] at h0
    refine Evt.congr0 (f := fun k => searchlightref23_Right.l0 k l 0) (by unfold sightsF; rw [if_neg (by omega)]; exact h0) fun k => ?_
    unfold searchlightref23_Right.f; rw [if_neg (by omega)]
  · refine Evt.of fun k => ?_
    unfold searchlightref23_Right.f sightsF
    rw [if_pos (by omega), if_pos (by omega)]
end Go.Proofs.YtdcdfahhlfeifaaGreatDoor.Q

end
section
namespace Go.Proofs.YtdcdfahhlfeifaaGreatDoor.Q
open Go.RowKit Go.Proofs.YtdcdfahhlfeifaaGreatDoorW.PrintWords Go.Proofs.YtdcdfahhlfeifaaGreatDoorW.PrintLast Go.Proofs.YtdcdfahhlfeifaaGreatDoorW.PrintMore
set_option linter.unusedVariables false
set_option linter.unusedSimpArgs false
theorem below_l0 (a1 : Int) (l : List S40) (hl : l.length ≤ 400) : ∀ (k : Nat) (acc : List Int) (i : Int), 0 ≤ i → i ≤ l.length → acc.length ≤ i → l.length - i.toNat < k → searchlightref23_below.l0 k l a1 acc i = some (acc ++ belowAt a1 i (l.drop i.toNat))
  | 0, _, _, _, _, _, h => by omega
  | k + 1, acc, i, h0, h1, h2, hk => by
    simp only [searchlightref23_below.l0]
    by_cases hlt : i < (l.length : Int)
    · rw [if_pos hlt, if_pos h0, belowAt_drop a1 l i h0 hlt]
      have hw : wrap64 (i + 1) = i + 1 := by unfold wrap64; omega
      by_cases he : (rd_T40 l i).f3 = a1
      · rw [if_pos he, if_pos he, if_pos (by omega)]
        rw [hw, below_l0 a1 l hl k _ (i + 1) (by omega) (by omega) (by simp; omega) (by omega)]
        simp
      · rw [if_neg he, if_neg he, hw, below_l0 a1 l hl k _ (i + 1) (by omega) (by omega) (by omega) (by omega)]
    · rw [if_neg hlt, List.drop_of_length_le (by omega)]
      simp [belowAt]
theorem below_evt (l : List S40) (hl : l.length ≤ 400) (a1 : Int) : Evt (fun k => searchlightref23_below.f k l a1) (below l a1) := by
  refine ⟨401, fun k hk => ?_⟩
  show searchlightref23_below.f k l a1 = _
  unfold searchlightref23_below.f
  rw [below_l0 a1 l hl k [] 0 (by omega) (by omega) (by simp) (by omega)]
  rfl
theorem under_evt (l : List S40) (hl : l.length ≤ 400) (a1 : Int) : Evt (fun k => watch_under.f k l a1) (below l a1) := by
  refine ⟨401, fun k hk => ?_⟩
  show watch_under.f k l a1 = _
  unfold watch_under.f
  rw [under_l0 a1 l hl k [] 0 (by omega) (by omega) (by simp) (by omega)]
  rfl
def underF (l : List S40) (a : Int) : List Int × Int := if sightsF l = 0 then (if a < -1 then ([], 1) else if a ≥ (l.length : Int) then ([], 1) else (below l a, 0)) else ([], sightsF l)
theorem wUnder_evt (l : List S40) (a : Int) : Evt (fun k => watch_Under.f k l a) (underF l a) := by
  by_cases hs : sightsF l = 0
  · obtain ⟨k0, h0⟩ := under_evt l (sightsF_len l hs) a
    refine ⟨k0, fun k hk => ?_⟩
    have h0 := h0 k hk
    simp only at h0
    show watch_Under.f k l a = _
    unfold watch_Under.f underF watch_isSights.f
    rw [Option.bind_some, if_pos hs, if_pos hs, h0, Option.bind_some]
    split
    · rfl
    · split <;> rfl
  · refine Evt.of fun k => ?_
    unfold watch_Under.f underF watch_isSights.f
    rw [Option.bind_some, if_neg hs, if_neg hs]
theorem rUnder_evt (l : List S40) (hf : l.all fits40 = true) (a : Int) : Evt (fun k => searchlightref23_Under.f k l a) (underF l a) := by
  obtain ⟨k1, h1⟩ := right_evt l hf
  by_cases hs : sightsF l = 0
  · obtain ⟨k0, h0⟩ := below_evt l (sightsF_len l hs) a
    refine ⟨k0 + k1, fun k hk => ?_⟩
    have h0 := h0 k (by omega)
    have h1 := h1 k (by omega)
    simp only at h0 h1
    show searchlightref23_Under.f k l a = _
    unfold searchlightref23_Under.f underF
    rw [h1, Option.bind_some, if_pos hs, if_pos hs, h0, Option.bind_some]
    split
    · rfl
    · split <;> rfl
  · refine ⟨k1, fun k hk => ?_⟩
    have h1 := h1 k (by omega)
    simp only at h1
    show searchlightref23_Under.f k l a = _
    unfold searchlightref23_Under.f underF
    rw [h1, Option.bind_some, if_neg hs, if_neg hs]
theorem scan_some (bad : List Bool) : ∀ (xs more : List Int) (i : Int), scan bad xs = (more, some i) → i ∈ xs ∧ rdOf false bad i = true
  | [], _, _, h => by simp [scan] at h
  | x :: xs, more, i, h => by
    simp only [scan] at h
    by_cases hb : rdOf false bad x = true
    · rw [if_pos hb] at h
      simp only [Prod.mk.injEq, Option.some.injEq] at h
      obtain ⟨_, rfl⟩ := h
      exact ⟨by simp, hb⟩
    · rw [if_neg hb] at h
      simp only [Prod.mk.injEq] at h
      have := scan_some bad xs (scan bad xs).1 i (Prod.ext rfl h.2)
      exact ⟨List.mem_cons_of_mem _ this.1, this.2⟩
theorem scan_none (bad : List Bool) : ∀ (xs more : List Int), scan bad xs = (more, none) → more = xs ∧ ∀ x ∈ xs, rdOf false bad x = false
  | [], _, h => by simp [scan] at h; exact ⟨h.symm ▸ rfl, by simp⟩
  | x :: xs, more, h => by
    simp only [scan] at h
    by_cases hb : rdOf false bad x = true
    · rw [if_pos hb] at h; simp at h
    · rw [if_neg hb] at h
      simp only [Prod.mk.injEq] at h
      obtain ⟨h1, h2⟩ := scan_none bad xs (scan bad xs).1 (Prod.ext rfl h.2)
      rw [h1] at h
      refine ⟨h.1.symm, fun y hy => ?_⟩
      rcases List.mem_cons.1 hy with rfl | hy
      · simpa using hb
      · exact h2 y hy
theorem belowAt_up (k : Int) : ∀ (l : List S40) (i x : Int), x ∈ belowAt k i l → ∃ h : (x - i).toNat < l.length, l[(x - i).toNat].f3 = k
  | [], _, _, h => by cases h
  | s :: l, i, x, h => by
    have key : x ∈ belowAt k (i + 1) l → ∃ h : (x - i).toNat < (s :: l).length, (s :: l)[(x - i).toNat].f3 = k := fun h => by
      obtain ⟨h1, h2⟩ := belowAt_up k l (i + 1) x h
      have h3 := belowAt_mem k l (i + 1) x h
      have h4 : (x - i).toNat = (x - (i + 1)).toNat + 1 := by omega
      refine ⟨by simp; omega, ?_⟩
      simp only [h4, List.getElem_cons_succ]
      exact h2
    simp only [belowAt] at h
    split at h
    · rename_i hs
      rcases List.mem_cons.1 h with rfl | h
      · exact ⟨by simp, by simpa using hs⟩
      · exact key h
    · exact key h
theorem below_up (l : List S40) (k x : Int) (h : x ∈ below l k) : (rd_T40 l x).f3 = k := by
  obtain ⟨h1, h2⟩ := belowAt_up k l 0 x h
  have h3 := below_mem l k x h
  have h4 : x = ((x - 0).toNat : Int) := by omega
  rw [h4, rd40 l _ h1]; exact h2
theorem downF_some {l : List S40} (bad : List Bool) (ha : l.all (sightB l.length) = true) : ∀ (n m F : Nat) (at_ : Int) (asked : List Int), ups l F at_ = some m → at_ < l.length → m + n = l.length + 1 → (downF l bad n at_ asked).isSome = true
  | 0, m, F, at_, asked, hu, hl, hm => by
    have := height_le ha hu hl; omega
  | n + 1, m, F, at_, asked, hu, hl, hm => by
    simp only [downF]
    have hsc : ∃ p, scan bad (below l at_) = p := ⟨_, rfl⟩
    obtain ⟨⟨more, o⟩, hsc⟩ := hsc
    rw [hsc]
    cases o with
    | none => simp only []; split <;> rfl
    | some i =>
      simp only []
      obtain ⟨h1, _⟩ := scan_some bad _ _ _ hsc
      have h2 := below_mem l at_ i h1
      have h3 := below_up l at_ i h1
      exact downF_some bad ha n (m + 1) (F + 1) i _ (by rw [ups_succ l F i h2.1, h3, hu]; rfl) h2.2 (by omega)
theorem downF_start {l : List S40} (bad : List Bool) (ha : l.all (sightB l.length) = true) : (downF l bad (l.length + 1) (-1) []).isSome = true :=
  downF_some bad ha (l.length + 1) 0 0 (-1) [] (ups_neg' l 0 (-1) (by omega)) (by omega) (by omega)
def BadUp (l : List S40) (bad : List Bool) (k : Int) : Prop := Evt (fun j => searchlightlaw23_wrong.l2 j l bad k) true
theorem badUp_neg (l : List S40) (bad : List Bool) (k : Int) (h : k < 0) : BadUp l bad k := by
  refine ⟨1, fun j hj => ?_⟩
  obtain ⟨j, rfl⟩ : ∃ m, j = m + 1 := ⟨j - 1, by omega⟩
  simp only [searchlightlaw23_wrong.l2]
  rw [if_neg (by omega)]; rfl
theorem badUp_step (l : List S40) (bad : List Bool) (hb : bad.length = l.length) (k x : Int) (h : BadUp l bad k) (hx : x ∈ below l k) (hbx : rdOf false bad x = true) : BadUp l bad x := by
  have h1 := below_mem l k x hx
  have h2 := below_up l k x hx
  refine Evt.congr h fun j => ?_
  simp only [searchlightlaw23_wrong.l2]
  rw [if_pos (by omega), if_pos h1.1, if_pos (by omega), if_pos hbx, if_pos h1.2, h2]
theorem downF_bad (l : List S40) (bad : List Bool) (hb : bad.length = l.length) : ∀ (n : Nat) (at_ : Int) (asked : List Int) (r : Int × List Int × Bool × Int), 0 ≤ at_ → at_ < l.length → rdOf false bad at_ = true → BadUp l bad at_ → downF l bad n at_ asked = some r →
    r.2.2.2 = 0 ∧ r.2.2.1 = true ∧ 0 ≤ r.1 ∧ r.1 < l.length ∧ rdOf false bad r.1 = true ∧ BadUp l bad r.1 ∧ ∀ x ∈ below l r.1, rdOf false bad x = false
  | 0, _, _, _, _, _, _, _, h => by simp [downF] at h
  | n + 1, at_, asked, r, h0, h1, hbad, hup, h => by
    simp only [downF] at h
    have hsc : ∃ p, scan bad (below l at_) = p := ⟨_, rfl⟩
    obtain ⟨⟨more, o⟩, hsc⟩ := hsc
    rw [hsc] at h
    cases o with
    | none =>
      simp only [] at h
      rw [if_neg (by omega)] at h
      obtain rfl := Option.some.inj h
      exact ⟨rfl, rfl, h0, h1, hbad, hup, (scan_none bad _ _ hsc).2⟩
    | some i =>
      simp only [] at h
      obtain ⟨h2, h3⟩ := scan_some bad _ _ _ hsc
      have h4 := below_mem l at_ i h2
      exact downF_bad l bad hb n i _ r h4.1 h4.2 h3 (badUp_step l bad hb at_ i hup h2 h3) h
theorem rWrong_in (l : List S40) (bad : List Bool) (hl : l.length ≤ 400) (hb : bad.length = l.length) (n : Nat) (r : Int × List Int × Bool × Int) (at_ : Int)
    (hout : ∀ (asked : List Int) (i : Int), downF l bad n i asked = some r → asked.length ≤ 400 * (401 - n) → 0 ≤ i → Evt (fun k => searchlightref23_Wrong.l0 k l bad asked i) r) (hn : n ≤ 400) :
    ∀ (d j : Nat) (asked : List Int), j ≤ (below l at_).length → (below l at_).length - j ≤ d → contW l bad n at_ asked ((below l at_).drop j) = some r → asked.length ≤ 400 * (400 - n) + j → Evt (fun k => searchlightref23_Wrong.l1 k l bad asked at_ (-1) (below l at_) (j : Int)) r := by
  have hbl := below_len l at_
  have hend : ∀ (asked : List Int) (j : Nat), (below l at_).length ≤ j → contW l bad n at_ asked ((below l at_).drop j) = some r → Evt (fun k => searchlightref23_Wrong.l1 k l bad asked at_ (-1) (below l at_) (j : Int)) r := fun asked j hj h => by
    rw [List.drop_of_length_le hj, contW_nil] at h
    refine ⟨2, fun k hk => ?_⟩
    obtain ⟨k, rfl⟩ : ∃ m, k = m + 2 := ⟨k - 2, by omega⟩
    simp only [searchlightref23_Wrong.l1, searchlightref23_Wrong.j2]
    rw [if_neg (by omega), if_neg (by simp), if_pos (by omega)]; exact h
  intro d
  induction d with
  | zero => intro j asked hj hd h hs; exact hend asked j (by omega) h
  | succ d ih =>
    intro j asked hj hd h hs
    by_cases hlt : j < (below l at_).length
    · have hd2 := rd_at (below l at_) j (by omega) (by omega)
      have hm := below_mem l at_ _ (rd_memI (below l at_) j (by omega) (by omega))
      rw [show ((j : Int)).toNat = j from by omega, show ((j : Int) + 1).toNat = j + 1 by omega] at hd2
      rw [hd2] at h
      have hstep : ∀ k, searchlightref23_Wrong.l1 (k + 2) l bad asked at_ (-1) (below l at_) (j : Int) = if rdOf false bad (rd (below l at_) (j : Int)) = true then searchlightref23_Wrong.l1 k l bad (asked ++ [rd (below l at_) (j : Int)]) at_ (rd (below l at_) (j : Int)) (below l at_) ((j + 1 : Nat) : Int) else searchlightref23_Wrong.l1 k l bad (asked ++ [rd (below l at_) (j : Int)]) at_ (-1) (below l at_) ((j + 1 : Nat) : Int) := fun k => by
        simp only [searchlightref23_Wrong.l1, searchlightref23_Wrong.j2]
        rw [if_pos (by omega), if_pos (by simp), if_pos (by omega), if_pos (by omega), if_pos (by omega), Option.bind_some, if_pos hm.1, if_pos (by omega), wrap_up (i := (j : Int)) (by omega) (by omega), show ((j + 1 : Nat) : Int) = (j : Int) + 1 by omega]
      generalize rd (below l at_) (j : Int) = x at *
      by_cases hbx : rdOf false bad x = true
      · rw [contW_bad l bad n at_ asked x _ hbx] at h
        obtain ⟨k0, ho⟩ := hout (asked ++ [x]) x h (by simp; omega) hm.1
        refine ⟨k0 + 4, fun k hk => ?_⟩
        obtain ⟨k, rfl⟩ : ∃ m, k = m + 4 := ⟨k - 4, by omega⟩
        show searchlightref23_Wrong.l1 (k + 4) l bad asked at_ (-1) (below l at_) (j : Int) = _
        rw [hstep (k + 2), if_pos hbx]
        have ho := ho k (by omega)
        simp only at ho
        simp only [searchlightref23_Wrong.l1, searchlightref23_Wrong.j2]
        have hx : ¬ x < 0 := by omega
        rw [decide_eq_false hx]
        simp only [Bool.false_eq_true, if_false, if_neg hx, ho]
        split <;> rfl
      · rw [Bool.not_eq_true] at hbx
        rw [contW_good l bad n at_ asked x _ hbx] at h
        obtain ⟨k0, ho⟩ := ih (j + 1) (asked ++ [x]) (by omega) (by omega) h (by simp; omega)
        refine ⟨k0 + 2, fun k hk => ?_⟩
        obtain ⟨k, rfl⟩ : ∃ m, k = m + 2 := ⟨k - 2, by omega⟩
        show searchlightref23_Wrong.l1 (k + 2) l bad asked at_ (-1) (below l at_) (j : Int) = _
        rw [hstep k, if_neg (by rw [hbx]; simp)]
        exact ho k (by omega)
    · exact hend asked j (by omega) h
theorem rWrong_down (l : List S40) (bad : List Bool) (hl : l.length ≤ 400) (hb : bad.length = l.length) (r : Int × List Int × Bool × Int) : ∀ (n : Nat) (asked : List Int) (at_ : Int), n ≤ 401 → downF l bad n at_ asked = some r → asked.length ≤ 400 * (401 - n) → Evt (fun k => searchlightref23_Wrong.l0 k l bad asked at_) r
  | 0, _, _, _, h, _ => by simp [downF] at h
  | n + 1, asked, at_, hn, h, hs => by
    rw [downF_cont] at h
    have hi := rWrong_in l bad hl hb n r at_ (fun asked i h1 h2 _ => rWrong_down l bad hl hb r n asked i (by omega) h1 h2) (by omega) (below l at_).length 0 asked (by omega) (by omega) (by rw [List.drop_zero]; exact h) (by omega)
    exact Evt.call (G := fun k t => searchlightref23_Wrong.l1 k l bad asked at_ (-1) t 0) (below_evt l hl at_) hi (fun k => by simp only [searchlightref23_Wrong.l0]) fun k => rfl
theorem wrongF_some (l : List S40) (bad : List Bool) : ∃ r, wrongF l bad = some r := by
  unfold wrongF
  by_cases hs : sightsF l = 0
  · rw [if_pos hs]
    by_cases hb : bad.length = l.length
    · rw [if_pos hb]
      exact Option.isSome_iff_exists.1 (downF_start bad (sights_right l hs).2.1)
    · rw [if_neg hb]; exact ⟨_, rfl⟩
  · rw [if_neg hs]; exact ⟨_, rfl⟩
theorem rWrong_evt (l : List S40) (hf : l.all fits40 = true) (bad : List Bool) (r : Int × List Int × Bool × Int) (h : wrongF l bad = some r) : Evt (fun k => searchlightref23_Wrong.f k l bad) r := by
  obtain ⟨k1, h1⟩ := right_evt l hf
  unfold wrongF at h
  by_cases hs : sightsF l = 0
  · rw [if_pos hs] at h
    by_cases hb : bad.length = l.length
    · rw [if_pos hb] at h
      have hl := sightsF_len l hs
      obtain ⟨k0, h0⟩ := rWrong_down l bad hl hb r (l.length + 1) [] (-1) (by omega) h (by simp)
      refine ⟨k0 + k1, fun k hk => ?_⟩
      have h0 := h0 k (by omega)
      have h1 := h1 k (by omega)
      simp only at h0 h1
      show searchlightref23_Wrong.f k l bad = _
      unfold searchlightref23_Wrong.f
      rw [h1, Option.bind_some, if_pos hs, if_pos (by omega), h0]
    · rw [if_neg hb] at h
      refine ⟨k1, fun k hk => ?_⟩
      have h1 := h1 k (by omega)
      simp only at h1
      show searchlightref23_Wrong.f k l bad = _
      unfold searchlightref23_Wrong.f
      rw [h1, Option.bind_some, if_pos hs, if_neg (by omega)]; exact h
  · rw [if_neg hs] at h
    refine ⟨k1, fun k hk => ?_⟩
    have h1 := h1 k (by omega)
    simp only at h1
    show searchlightref23_Wrong.f k l bad = _
    unfold searchlightref23_Wrong.f
    rw [h1, Option.bind_some, if_neg hs]; exact h
theorem inner_some (v : S38) (h : validF v = 0) : searchlightref23_inner.f v.f0 v.f1 v.f2 v.f3 = some ⟨(inn 40 v).toArray⟩ := by
  have hl := valid_len h
  have ht : searchlightref08_Text.f v.f0 v.f1 v.f2 v.f3 = some ⟨(txt 40 v).toArray⟩ := by
    show textF v = _
    unfold textF; rw [if_pos h]
  have hz : (⟨(txt 40 v).toArray⟩ : ByteArray).size = (txt 40 v).length := by rw [← size_bs, bs_mk]
  unfold searchlightref23_inner.f inn
  rw [ht, Option.bind_some, Option.bind_some]
  by_cases h0 : v.f3.length = 0
  · rw [if_neg (by omega), if_pos h0]
  · rw [if_pos (by omega), if_neg h0, if_pos (by omega), if_pos (by rw [size_append', hz]; show 1 + _ + 1 ≤ _; omega)]
    congr 1
theorem flat_take (f : S40 → List UInt8) (l : List S40) (n : Nat) : ((l.take n).flatMap f).length ≤ (l.flatMap f).length := by
  conv => rhs; rw [← List.take_append_drop n l, List.flatMap_append, List.length_append]
  omega
theorem rep_step (acc : List UInt8) (m : Nat) : acc ++ [32, 32] ++ List.replicate (2 * m) 32 = acc ++ List.replicate (2 * (m + 1)) 32 := by
  rw [List.append_assoc]; congr 1
theorem rPrint_l1 (l : List S40) (i : Nat) (hi : i < l.length) (r : ByteArray × Int) (q : List UInt8) (hq : q.length ≤ 100000) (hnm : (bs l[i].f0).length ≤ 16) (hnext : ∀ acc : ByteArray, bs acc = q ++ bs l[i].f0 → Evt (fun k => searchlightref23_Print.l2 k l acc (i : Int) 0) r) :
    ∀ (m : Nat) (acc : ByteArray), m ≤ 400 → bs acc ++ List.replicate (2 * m) 32 = q → Evt (fun k => searchlightref23_Print.l1 k l acc (i : Int) (m : Int)) r
  | 0, acc, hm, ha => by
    have hz := size_bs acc
    have hzn := size_bs l[i].f0
    simp only [Nat.mul_zero, List.replicate_zero, List.append_nil] at ha
    refine Evt.congr (hnext (acc ++ l[i].f0) (by rw [bs_append, ha])) fun k => ?_
    simp only [searchlightref23_Print.l1]
    rw [ha] at hz
    rw [if_neg (by omega), if_pos (by omega), if_pos (by omega), rd40 l i hi, if_pos (by omega)]
  | m + 1, acc, hm, ha => by
    have hz := size_bs acc
    have hza : (bs acc).length ≤ q.length := by rw [← ha]; simp
    have ih := rPrint_l1 l i hi r q hq hnm hnext m (acc ++ ⟨#[32, 32]⟩) (by omega) (by rw [bs_append, bs_mk2, rep_step, ha])
    refine Evt.congr ih fun k => ?_
    simp only [searchlightref23_Print.l1]
    rw [if_pos (by omega), if_pos (by omega), show wrap64 (((m + 1 : Nat) : Int) - 1) = (m : Int) by unfold wrap64; omega]
theorem rPrint_l0 (l : List S40) (hs : sightsF l = 0) : ∀ (d i : Nat) (acc : ByteArray), i ≤ l.length → l.length - i ≤ d → bs acc = (l.take i).flatMap (line l) → acc.size ≤ 20000 → Evt (fun k => searchlightref23_Print.l0 k l acc (i : Int)) (printF l) := by
  obtain ⟨hl, ha, hups, hval⟩ := sights_right l hs
  have hend : ∀ (i : Nat) (acc : ByteArray), l.length ≤ i → bs acc = (l.take i).flatMap (line l) → acc.size ≤ 20000 → Evt (fun k => searchlightref23_Print.l0 k l acc (i : Int)) (printF l) := fun i acc hi hb hz => by
    rw [List.take_of_length_le hi] at hb
    have hz2 := size_bs acc
    rw [hb] at hz2
    refine Evt.congr (f := fun _ => some (acc, 0)) ?_ fun k => by simp only [searchlightref23_Print.l0]; rw [if_neg (by omega)]
    have hp : printF l = (acc, 0) := by
      unfold printF
      rw [if_pos hs, if_neg (by omega)]
      refine Prod.ext (bs_ext ?_) rfl
      rw [bs_mk, hb]
    rw [hp]; exact Evt.of fun _ => rfl
  intro d
  induction d with
  | zero => intro i acc hi hd hb hz; exact hend i acc (by omega) hb hz
  | succ d ih =>
    intro i acc hi hd hb hz
    by_cases h : i < l.length
    · have hmem := List.getElem_mem h
      obtain ⟨m, hm⟩ := hups _ hmem
      have hmle := height_le ha hm (by have := (sightB_up (List.all_eq_true.1 ha _ hmem)).2; omega)
      obtain ⟨hva, hvr⟩ := hval _ hmem
      have hnm := sightB_name (List.all_eq_true.1 ha _ hmem)
      have har := sightB_args (List.all_eq_true.1 ha _ hmem)
      have hdp := depth_evt l hl ha i h
      rw [hm] at hdp
      have hbz := size_bs acc
      have hline : line l l[i] = List.replicate (2 * m) 32 ++ bs l[i].f0 ++ (l[i].f1.flatMap fun a => 32 :: inn 40 a) ++ [32, 61, 32] ++ txt 40 l[i].f2 ++ [10] := by unfold line; rw [hm]; rfl
      have htk : (l.take (i + 1)).flatMap (line l) = (l.take i).flatMap (line l) ++ line l l[i] := by
        rw [List.take_succ_eq_append_getElem h, List.flatMap_append]; simp
      have htl := (valid_len hvr).1
      have hargs := flat_le (fun a => 32 :: inn 40 a) 6003 l[i].f1 fun x hx => by have := (valid_len (hva x hx)).2; simp; omega
      have htx : searchlightref08_Text.f l[i].f2.f0 l[i].f2.f1 l[i].f2.f2 l[i].f2.f3 = some ⟨(txt 40 l[i].f2).toArray⟩ := by
        show textF l[i].f2 = _
        unfold textF; rw [if_pos hvr]
      have hzt : (⟨(txt 40 l[i].f2).toArray⟩ : ByteArray).size = (txt 40 l[i].f2).length := by rw [← size_bs, bs_mk]
      have hpl : bs acc ++ List.replicate (2 * m) 32 ++ bs l[i].f0 = (l.take i).flatMap (line l) ++ List.replicate (2 * m) 32 ++ bs l[i].f0 := by rw [hb]
      have hl2 : ∀ (e j : Nat) (acc2 : ByteArray), j ≤ l[i].f1.length → l[i].f1.length - j ≤ e → bs acc2 = bs acc ++ List.replicate (2 * m) 32 ++ bs l[i].f0 ++ ((l[i].f1.take j).flatMap fun a => 32 :: inn 40 a) → Evt (fun k => searchlightref23_Print.l2 k l acc2 (i : Int) (j : Int)) (printF l) := by
        have hlast : ∀ (j : Nat) (acc2 : ByteArray), l[i].f1.length ≤ j → bs acc2 = bs acc ++ List.replicate (2 * m) 32 ++ bs l[i].f0 ++ ((l[i].f1.take j).flatMap fun a => 32 :: inn 40 a) → Evt (fun k => searchlightref23_Print.l2 k l acc2 (i : Int) (j : Int)) (printF l) := fun j acc2 hj hb2 => by
          rw [List.take_of_length_le hj] at hb2
          have hz2 := size_bs acc2
          rw [hb2] at hz2
          simp only [List.length_append, List.length_replicate] at hz2
          have hb3 : bs (acc2 ++ (((⟨#[32, 61, 32]⟩ : ByteArray) ++ ⟨(txt 40 l[i].f2).toArray⟩) ++ ⟨#[10]⟩)) = (l.take (i + 1)).flatMap (line l) := by
            rw [bs_append, bs_append, bs_append, hb2, htk, hline, hb, bs_mk (txt 40 l[i].f2)]
            simp only [List.append_assoc]; rfl
          have hz3 := size_bs (acc2 ++ (((⟨#[32, 61, 32]⟩ : ByteArray) ++ ⟨(txt 40 l[i].f2).toArray⟩) ++ ⟨#[10]⟩))
          have hs1 : ((⟨#[32, 61, 32]⟩ : ByteArray) ++ ⟨(txt 40 l[i].f2).toArray⟩).size = 3 + (txt 40 l[i].f2).length := by rw [size_append', hzt]; rfl
          have hs2 : (((⟨#[32, 61, 32]⟩ : ByteArray) ++ ⟨(txt 40 l[i].f2).toArray⟩) ++ ⟨#[10]⟩).size = 3 + (txt 40 l[i].f2).length + 1 := by rw [size_append', hs1]; rfl
          have hpre : ∀ k, searchlightref23_Print.l2 (k + 1) l acc2 (i : Int) (j : Int) = if ((acc2 ++ (((⟨#[32, 61, 32]⟩ : ByteArray) ++ ⟨(txt 40 l[i].f2).toArray⟩) ++ ⟨#[10]⟩)).size : Int) > 20000 then some (⟨#[]⟩, 3) else searchlightref23_Print.l0 k l (acc2 ++ (((⟨#[32, 61, 32]⟩ : ByteArray) ++ ⟨(txt 40 l[i].f2).toArray⟩) ++ ⟨#[10]⟩)) ((i + 1 : Nat) : Int) := fun k => by
            simp only [searchlightref23_Print.l2]
            rw [if_pos (by omega), if_pos (by omega), rd40 l i h, if_neg (by omega), htx, Option.bind_some, if_pos (by omega), if_pos (by omega), if_pos (by omega), wrap_up (i := (i : Int)) (by omega) (by omega), show ((i + 1 : Nat) : Int) = (i : Int) + 1 by omega]
          by_cases hbig : ((acc2 ++ (((⟨#[32, 61, 32]⟩ : ByteArray) ++ ⟨(txt 40 l[i].f2).toArray⟩) ++ ⟨#[10]⟩)).size : Int) > 20000
          · have hp : printF l = (⟨#[]⟩, 3) := by
              unfold printF
              rw [if_pos hs, if_pos ?_]
              have h9 : ((l.take (i + 1)).flatMap (line l)).length ≤ (l.flatMap (line l)).length := flat_take (line l) l (i + 1)
              rw [← hb3] at h9
              omega
            rw [hp]
            exact Evt.congr (f := fun _ => some (⟨#[]⟩, 3)) (Evt.of fun _ => rfl) fun k => by rw [hpre k, if_pos hbig]
          · exact Evt.congr (ih (i + 1) _ (by omega) (by omega) hb3 (by omega)) fun k => by rw [hpre k, if_neg hbig]
        intro e
        induction e with
        | zero => intro j acc2 hj he hb2; exact hlast j acc2 (by omega) hb2
        | succ e ihe =>
          intro j acc2 hj he hb2
          by_cases hlt : j < l[i].f1.length
          · have hv := hva _ (List.getElem_mem hlt)
            have hin := inner_some _ hv
            have hinl := (valid_len hv).2
            have hz2 := size_bs acc2
            have htj := flat_le (fun a => 32 :: inn 40 a) 6003 (l[i].f1.take j) fun x hx => by have := (valid_len (hva x (List.mem_of_mem_take hx))).2; simp; omega
            have htjl : (l[i].f1.take j).length ≤ 8 := by simp; omega
            rw [hb2] at hz2
            simp only [List.length_append, List.length_replicate] at hz2
            have hzi : (⟨(inn 40 l[i].f1[j]).toArray⟩ : ByteArray).size = (inn 40 l[i].f1[j]).length := by rw [← size_bs, bs_mk]
            have hs1 : ((⟨#[32]⟩ : ByteArray) ++ ⟨(inn 40 l[i].f1[j]).toArray⟩).size = 1 + (inn 40 l[i].f1[j]).length := by rw [size_append', hzi]; rfl
            have ih2 := ihe (j + 1) (acc2 ++ ((⟨#[32]⟩ : ByteArray) ++ ⟨(inn 40 l[i].f1[j]).toArray⟩)) (by omega) (by omega) (by
              rw [bs_append, bs_append, hb2, bs_mk (inn 40 l[i].f1[j]), List.take_succ_eq_append_getElem hlt, List.flatMap_append]
              simp only [List.append_assoc, List.flatMap_cons, List.flatMap_nil, List.append_nil]; rfl)
            refine Evt.congr ih2 fun k => ?_
            simp only [searchlightref23_Print.l2]
            rw [if_pos (by omega), if_pos (by omega), rd40 l i h, if_pos (by omega), if_pos (by omega), rd_T38_at _ j hlt, hin, Option.bind_some, if_pos (by omega), if_pos (by omega), wrap_up (i := (j : Int)) (by omega) (by omega), show ((j + 1 : Nat) : Int) = (j : Int) + 1 by omega]
          · exact hlast j acc2 (by omega) hb2
      have h1 := rPrint_l1 l i h (printF l) (bs acc ++ List.replicate (2 * m) 32) (by simp only [List.length_append, List.length_replicate]; omega) hnm (fun acc2 h2 => by
        have := hl2 l[i].f1.length 0 acc2 (by omega) (by omega) (by rw [h2]; simp)
        exact this) m acc (by omega) rfl
      exact Evt.call (G := fun k t => searchlightref23_Print.l1 k l acc (i : Int) t) hdp h1 (fun k => by simp only [searchlightref23_Print.l0]; rw [if_pos (by omega)]) fun k => rfl
    · exact hend i acc (by omega) hb hz
theorem rPrint_evt (l : List S40) (hf : l.all fits40 = true) : Evt (fun k => searchlightref23_Print.f k l) (printF l) := by
  obtain ⟨k1, h1⟩ := right_evt l hf
  by_cases hs : sightsF l = 0
  · obtain ⟨k0, h0⟩ := rPrint_l0 l hs l.length 0 ⟨#[]⟩ (by omega) (by omega) rfl (by decide)
    refine ⟨k0 + k1, fun k hk => ?_⟩
    have h0 := h0 k (by omega)
    have h1 := h1 k (by omega)
    simp only at h0 h1
    show searchlightref23_Print.f k l = _
    unfold searchlightref23_Print.f
    rw [h1, Option.bind_some, if_pos hs]; exact h0
  · refine ⟨k1, fun k hk => ?_⟩
    have h1 := h1 k (by omega)
    simp only at h1
    show searchlightref23_Print.f k l = _
    unfold searchlightref23_Print.f printF
    rw [h1, Option.bind_some, if_neg hs, if_neg hs]
end Go.Proofs.YtdcdfahhlfeifaaGreatDoor.Q

end
section
namespace Go.Proofs.YtdcdfahhlfeifaaGreatDoor.Q
open Go.RowKit Go.Proofs.YtdcdfahhlfeifaaGreatDoorW.PrintWords Go.Proofs.YtdcdfahhlfeifaaGreatDoorW.PrintLast Go.Proofs.YtdcdfahhlfeifaaGreatDoorW.PrintMore
set_option linter.unusedVariables false
set_option linter.unusedSimpArgs false
theorem same_l0 (a : List Int) (h : a.length ≤ 1000000) : ∀ (d : Nat) (i : Nat), i ≤ a.length → a.length - i ≤ d → Evt (fun k => searchlightref01_SameInts.l0 k a a (i : Int)) true
  | 0, i, hi, hd => by
    refine Evt.congr (f := fun _ => some true) (Evt.of fun _ => rfl) fun k => ?_
    simp only [searchlightref01_SameInts.l0]; rw [if_neg (by omega)]
  | d + 1, i, hi, hd => by
    by_cases hlt : i < a.length
    · refine Evt.congr (same_l0 a h d (i + 1) (by omega) (by omega)) fun k => ?_
      simp only [searchlightref01_SameInts.l0]
      simp only [if_true]
      rw [if_pos (by omega), if_pos (by omega), if_pos (by omega), wrap_up (i := (i : Int)) (by omega) (by omega), show ((i + 1 : Nat) : Int) = (i : Int) + 1 by omega]
    · refine Evt.congr (f := fun _ => some true) (Evt.of fun _ => rfl) fun k => ?_
      simp only [searchlightref01_SameInts.l0]; rw [if_neg (by omega)]
theorem same_evt (a : List Int) (h : a.length ≤ 1000000) : Evt (fun k => searchlightref01_SameInts.f k a a) true := by
  refine Evt.congr0 (same_l0 a h a.length 0 (by omega) (by omega)) fun k => ?_
  unfold searchlightref01_SameInts.f
  rw [if_pos rfl]; rfl
theorem scan_len (bad : List Bool) : ∀ (xs : List Int), (scan bad xs).1.length ≤ xs.length
  | [] => by simp [scan]
  | x :: xs => by
    have := scan_len bad xs
    simp only [scan]
    split <;> simp <;> omega
theorem downF_len (l : List S40) (bad : List Bool) (hl : l.length ≤ 400) : ∀ (n : Nat) (at_ : Int) (asked : List Int) (r : Int × List Int × Bool × Int), downF l bad n at_ asked = some r → r.2.1.length ≤ asked.length + 400 * n
  | 0, _, _, _, h => by simp [downF] at h
  | n + 1, at_, asked, r, h => by
    simp only [downF] at h
    have hb := below_len l at_
    have hs := scan_len bad (below l at_)
    generalize scan bad (below l at_) = p at *
    obtain ⟨more, o⟩ := p
    cases o with
    | none =>
      simp only [] at h hs
      split at h <;> obtain rfl := Option.some.inj h <;> simp <;> omega
    | some i =>
      simp only [] at h hs
      have := downF_len l bad hl n i (asked ++ more) r h
      simp at this; omega
theorem wrongF_len (l : List S40) (bad : List Bool) (r : Int × List Int × Bool × Int) (h : wrongF l bad = some r) : r.2.1.length ≤ 1000000 := by
  unfold wrongF at h
  by_cases hs : sightsF l = 0
  · rw [if_pos hs] at h
    by_cases hb : bad.length = l.length
    · rw [if_pos hb] at h
      have hl := sightsF_len l hs
      have := downF_len l bad hl _ _ _ r h
      simp at this; omega
    · rw [if_neg hb] at h
      obtain rfl := Option.some.inj h; simp
  · rw [if_neg hs] at h
    obtain rfl := Option.some.inj h; simp
theorem underF_len (l : List S40) (a : Int) : (underF l a).1.length ≤ 1000000 := by
  unfold underF
  by_cases hs : sightsF l = 0
  · rw [if_pos hs]
    have hl := sightsF_len l hs
    have := below_len l a
    split
    · simp
    · split
      · simp
      · show (below l a).length ≤ _; omega
  · rw [if_neg hs]; simp
theorem lists_evt (l : List S40) (hf : l.all fits40 = true) (a : Int) (bad : List Bool) : Evt (fun k => searchlightlaw23_lists.f k l a bad) true := by
  obtain ⟨r, hr⟩ := wrongF_some l bad
  obtain ⟨k1, h1⟩ := wUnder_evt l a
  obtain ⟨k2, h2⟩ := rUnder_evt l hf a
  obtain ⟨k3, h3⟩ := rWrong_evt l hf bad r hr
  obtain ⟨k4, h4⟩ := rPrint_evt l hf
  obtain ⟨k5, h5⟩ := same_evt _ (underF_len l a)
  obtain ⟨k6, h6⟩ := same_evt _ (wrongF_len l bad r hr)
  refine ⟨k1 + k2 + k3 + k4 + k5 + k6, fun k hk => ?_⟩
  have h1 := h1 k (by omega)
  have h2 := h2 k (by omega)
  have h3 := h3 k (by omega)
  have h4 := h4 k (by omega)
  have h5 := h5 k (by omega)
  have h6 := h6 k (by omega)
  simp only at h1 h2 h3 h4 h5 h6
  show searchlightlaw23_lists.f k l a bad = _
  unfold searchlightlaw23_lists.f watch_Wrong.f watch_Print.f searchlightlaw23_known.f
  simp only [h1, h2, hr, h3, h4, h5, h6, Option.bind_some, if_true, beq_self_eq_true]
theorem none_l0 (l : List S40) (bad : List Bool) (xs : List Int) (hx : xs.length ≤ 400) (hr : ∀ x ∈ xs, 0 ≤ x ∧ x < bad.length) (hn : ∀ x ∈ xs, rdOf false bad x = false) : ∀ (d : Nat) (i : Nat), i ≤ xs.length → xs.length - i ≤ d → Evt (fun k => searchlightlaw23_wrong.l0 k bad xs (i : Int)) true
  | 0, i, hi, hd => by
    refine Evt.congr (f := fun _ => some true) (Evt.of fun _ => rfl) fun k => ?_
    simp only [searchlightlaw23_wrong.l0, searchlightlaw23_known.f]; rw [if_neg (by omega)]; rfl
  | d + 1, i, hi, hd => by
    by_cases hlt : i < xs.length
    · have hm := rd_memI xs (i : Int) (by omega) (by omega)
      refine Evt.congr (none_l0 l bad xs hx hr hn d (i + 1) (by omega) (by omega)) fun k => ?_
      simp only [searchlightlaw23_wrong.l0]
      rw [if_pos (by omega), if_pos (by omega), if_pos (hr _ hm).1, if_pos (hr _ hm).2, hn _ hm, if_neg (by simp), wrap_up (i := (i : Int)) (by omega) (by omega), show ((i + 1 : Nat) : Int) = (i : Int) + 1 by omega]
    · refine Evt.congr (f := fun _ => some true) (Evt.of fun _ => rfl) fun k => ?_
      simp only [searchlightlaw23_wrong.l0, searchlightlaw23_known.f]; rw [if_neg (by omega)]; rfl
theorem none_l1 (l : List S40) (bad : List Bool) (n : Int) (hup : BadUp l bad n) (xs : List Int) (hx : xs.length ≤ 400) (hr : ∀ x ∈ xs, 0 ≤ x ∧ x < bad.length) (hn : ∀ x ∈ xs, rdOf false bad x = false) : ∀ (d : Nat) (i : Nat), i ≤ xs.length → xs.length - i ≤ d → Evt (fun k => searchlightlaw23_wrong.l1 k l bad n xs (i : Int)) true
  | 0, i, hi, hd => by
    refine Evt.congr hup fun k => ?_
    simp only [searchlightlaw23_wrong.l1]; rw [if_neg (by omega)]
  | d + 1, i, hi, hd => by
    by_cases hlt : i < xs.length
    · have hm := rd_memI xs (i : Int) (by omega) (by omega)
      refine Evt.congr (none_l1 l bad n hup xs hx hr hn d (i + 1) (by omega) (by omega)) fun k => ?_
      simp only [searchlightlaw23_wrong.l1]
      rw [if_pos (by omega), if_pos (by omega), if_pos (hr _ hm).1, if_pos (hr _ hm).2, hn _ hm, if_neg (by simp), wrap_up (i := (i : Int)) (by omega) (by omega), show ((i + 1 : Nat) : Int) = (i : Int) + 1 by omega]
    · refine Evt.congr hup fun k => ?_
      simp only [searchlightlaw23_wrong.l1]; rw [if_neg (by omega)]
theorem wrong_evt (l : List S40) (bad : List Bool) : Evt (fun k => searchlightlaw23_wrong.f k l bad) true := by
  obtain ⟨r, hr⟩ := wrongF_some l bad
  have hrl := wrongF_len l bad r hr
  by_cases hs : sightsF l = 0
  · have hl := sightsF_len l hs
    by_cases hb : bad.length = l.length
    · have hd : downF l bad (l.length + 1) (-1) [] = some r := by unfold wrongF at hr; rwa [if_pos hs, if_pos hb] at hr
      rw [downF_cont] at hd
      unfold contW at hd
      have hsc : ∃ p, scan bad (below l (-1)) = p := ⟨_, rfl⟩
      obtain ⟨⟨more, o⟩, hsc⟩ := hsc
      rw [hsc] at hd
      have hbl : ∀ a x, x ∈ below l a → 0 ≤ x ∧ x < bad.length := fun a x hx => by have := below_mem l a x hx; omega
      cases o with
      | none =>
        obtain ⟨rfl, hnb⟩ := scan_none bad _ _ hsc
        simp only [] at hd
        rw [if_pos (by omega), List.nil_append] at hd
        obtain rfl := Option.some.inj hd
        obtain ⟨k1, h1⟩ := wUnder_evt l (-1)
        obtain ⟨k2, h2⟩ := same_evt (below l (-1)) (by have := below_len l (-1); omega)
        obtain ⟨k3, h3⟩ := none_l0 l bad (below l (-1)) (by have := below_len l (-1); omega) (hbl (-1)) hnb (below l (-1)).length 0 (by omega) (by omega)
        refine ⟨k1 + k2 + k3 + 1, fun k hk => ?_⟩
        obtain ⟨k, rfl⟩ : ∃ m, k = m + 1 := ⟨k - 1, by omega⟩
        have h1 := h1 (k + 1) (by omega)
        have h2 := h2 (k + 1) (by omega)
        have h3 := h3 k (by omega)
        simp only at h1 h2 h3
        show searchlightlaw23_wrong.f (k + 1) l bad = _
        have hu : underF l (-1) = (below l (-1), 0) := by
          unfold underF; rw [if_pos hs, if_neg (by omega), if_neg (by omega)]
        rw [hu] at h1
        unfold searchlightlaw23_wrong.f watch_Wrong.f
        rw [hr, Option.bind_some, if_pos rfl, if_neg (by simp), h1, Option.bind_some, if_pos rfl, h2, Option.bind_some]
        simp only [searchlightlaw23_wrong.j0, Bool.not_true, Bool.false_eq_true, if_false]
        exact h3
      | some i =>
        simp only [] at hd
        obtain ⟨h2, h3⟩ := scan_some bad _ _ _ hsc
        have h4 := below_mem l (-1) i h2
        obtain ⟨g1, g2, g3, g4, g5, g6, g7⟩ := downF_bad l bad hb l.length i _ r h4.1 h4.2 h3 (badUp_step l bad hb (-1) i (badUp_neg l bad (-1) (by omega)) h2 h3) hd
        obtain ⟨k1, u1⟩ := wUnder_evt l r.1
        obtain ⟨k2, u2⟩ := none_l1 l bad r.1 g6 (below l r.1) (by have := below_len l r.1; omega) (hbl r.1) g7 (below l r.1).length 0 (by omega) (by omega)
        refine ⟨k1 + k2 + 1, fun k hk => ?_⟩
        obtain ⟨k, rfl⟩ : ∃ m, k = m + 1 := ⟨k - 1, by omega⟩
        have u1 := u1 k (by omega)
        have u2 := u2 k (by omega)
        simp only at u1 u2
        show searchlightlaw23_wrong.f (k + 1) l bad = _
        have hu : underF l r.1 = (below l r.1, 0) := by
          unfold underF; rw [if_pos hs, if_neg (by omega), if_neg (by omega)]
        rw [hu] at u1
        unfold searchlightlaw23_wrong.f watch_Wrong.f
        rw [hr, Option.bind_some, if_pos g1, if_pos g2, if_neg (by omega), if_neg (by omega), if_pos g3, if_pos (by omega), g5]
        simp only [searchlightlaw23_wrong.j2, Bool.not_true, Bool.false_eq_true, if_false, u1, Option.bind_some, if_true]
        exact u2
    · refine Evt.of fun k => ?_
      have hd : r = (0, [], false, 8) := by unfold wrongF at hr; rw [if_pos hs, if_neg hb] at hr; exact (Option.some.inj hr).symm
      subst hd
      unfold searchlightlaw23_wrong.f watch_Wrong.f searchlightlaw23_known.f
      rw [hr, Option.bind_some, if_neg (by simp)]; rfl
  · refine Evt.of fun k => ?_
    have hd : r = (0, [], false, sightsF l) := by unfold wrongF at hr; rw [if_neg hs] at hr; exact (Option.some.inj hr).symm
    subst hd
    unfold searchlightlaw23_wrong.f watch_Wrong.f searchlightlaw23_known.f
    rw [hr, Option.bind_some, if_neg hs]; rfl
theorem law_evt (l : List S40) (hf : l.all fits40 = true) (a : Int) (bad : List Bool) : ∃ k, searchlightlaw23_WatchWrong.f k l a bad = some true := by
  obtain ⟨k1, h1⟩ := lists_evt l hf a bad
  obtain ⟨k2, h2⟩ := wrong_evt l bad
  refine ⟨k1 + k2, ?_⟩
  have h1 := h1 (k1 + k2) (by omega)
  have h2 := h2 (k1 + k2) (by omega)
  simp only at h1 h2
  unfold searchlightlaw23_WatchWrong.f
  rw [h1, Option.bind_some, if_pos rfl, h2]; rfl
end Go.Proofs.YtdcdfahhlfeifaaGreatDoor.Q

end
