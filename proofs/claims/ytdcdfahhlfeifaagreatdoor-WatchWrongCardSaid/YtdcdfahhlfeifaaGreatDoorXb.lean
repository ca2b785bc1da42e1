/- The abstract executor: appends, all operations; frames, drawn regions, code, bodies, closed runs. -/
import Derived.Test.YtdcdfahhlfeifaaGreatDoorXa
import Derived.Recover
section
section
namespace Go.Ax
open Go.RowKit (Below)
section
variable {P : Program} {w0 w : World} {μ : Mu} {h : AH}
theorem source_sound (s : Sim w0 μ h w) {n k : Nat} {b : AV} {y : Value} {new : List AV} (hy : VR μ b y) (e : sourceA h n b = some (new, k)) :
    (Builtin.lenOf y).run P w = .ok k w ∧ (∃ cs, (Builtin.firstCells n k y).run P w = .ok cs w ∧ VRs μ new cs.toList) ∧ new.length = k * n := by
  unfold sourceA at e
  split at e
  · simp only [VR] at hy; subst hy
    simp at e; obtain ⟨rfl, rfl⟩ := e
    exact ⟨rfl, ⟨#[], rfl, .nil⟩, by simp⟩
  · rename_i r o len cap
    simp only [VR] at hy; obtain ⟨p, hp, rfl⟩ := hy
    cases hc : cellsAt h r o (len * n) with
    | none => simp [hc] at e
    | some cs =>
      simp [hc] at e; obtain ⟨rfl, rfl⟩ := e
      obtain ⟨ds, hr, hv, hn⟩ := s.loadCells (P := P) hp hc
      refine ⟨rfl, ⟨ds, by simp [Builtin.firstCells, hr], hv⟩, ?_⟩
      have := hv.length; simp at this; omega
  · cases e
theorem append_room {t u ty elem e2 : TypeId} {n k sLen sCap : Nat} {base : Option Addr} {y : Value} {new : Array Value} (hu : P.underlying t = some (.slice elem)) (huu : P.underlying u = some (.slice e2)) (hn : size P elem = some n)
    (hl : (Builtin.lenOf y).run P w = .ok k w) (hf : (Builtin.firstCells n k y).run P w = .ok new w) (hc : sLen + k ≤ sCap) :
    (Builtin.append_ #[t, u] ty #[.slice base sLen sCap, y]).run P w =
      (match base with | some a => (storeCells (a.add (sLen * n)) new.toList).run P w | none => .ok () w).andThen fun _ w' => .ok (.slice base (sLen + k) sCap) w' := by
  simp only [Builtin.append_, Sem.run_bind, run_underlying hu, Result.andThen_ok, run_sizeOf' hn, run_underlying huu, Sem.run_pure, List.getElem?_toArray, List.getElem?_cons_zero, List.getElem?_cons_succ]
  rw [if_neg (by simp)]
  simp only [Sem.run_bind, hl, Result.andThen_ok]
  rw [if_pos hc]
  simp only [Bool.not_false, if_true, Sem.run_bind, hf, Result.andThen_ok]
  cases base with
  | none => rfl
  | some a => simp
theorem append_grow {t u ty elem e2 : TypeId} {n k sLen sCap : Nat} {base : Option Addr} {y : Value} {new old : Array Value} {i : TypeInfo} {z : Value} (hu : P.underlying t = some (.slice elem)) (huu : P.underlying u = some (.slice e2))
    (hi : P.info? elem = some i) (hn : i.size = n) (hz : (zeroValue elem).run P { w with drawn := w.drawn + 1 } = .ok z { w with drawn := w.drawn + 1 })
    (hl : (Builtin.lenOf y).run P w = .ok k w) (hf : (Builtin.firstCells n k y).run P { w with drawn := w.drawn + 1 } = .ok new { w with drawn := w.drawn + 1 })
    (ho : (Builtin.firstCells n sLen (.slice base sLen sCap)).run P { w with drawn := w.drawn + 1 } = .ok old { w with drawn := w.drawn + 1 })
    (hc : ¬ sLen + k ≤ sCap) (hbig : sLen + k ≤ 2 ^ 20) (hb : i.bytes ≤ 2 ^ 16) :
    ∃ newCap, sLen + k ≤ newCap ∧ (Builtin.append_ #[t, u] ty #[.slice base sLen sCap, y]).run P w =
      .ok (.slice (some ⟨w.heap.size, 0, none⟩) (sLen + k) newCap) ({ w with drawn := w.drawn + 1 }.alloc (.cells (old ++ new ++ Builtin.zeroCells z.cells (newCap - (sLen + k))) elem)) := by
  have hns : size P elem = some n := by unfold size; rw [hi]; simp [hn]
  have e20 : (2:Nat) ^ 20 = 1048576 := rfl
  have e16 : (2:Nat) ^ 16 = 65536 := rfl
  have hcap : Builtin.nextslicecap (sLen + k) sCap ≤ 4 * 1048576 := by
    have grow : ∀ (m N c : Nat), c ≤ 2 * N + 1000 → N ≤ 1048576 → Builtin.growBy N m c ≤ 4 * 1048576 := by
      intro m
      induction m with
      | zero => intro N c h1 h2; simp only [Builtin.growBy]; omega
      | succ m ih =>
        intro N c h1 h2
        simp only [Builtin.growBy]
        split
        · omega
        · exact ih N _ (by omega) h2
    unfold Builtin.nextslicecap
    split
    · omega
    · split
      · omega
      · exact grow 4 (sLen + k) sCap (by omega) (by omega)
  have hmul : Builtin.nextslicecap (sLen + k) sCap * i.bytes ≤ 4 * 1048576 * 65536 := Nat.mul_le_mul hcap (by omega)
  refine ⟨(Question.appendCap (sLen + k) sCap elem).cut (w.tape w.drawn (Question.appendCap (sLen + k) sCap elem)), by simp [Question.cut], ?_⟩
  simp only [Builtin.append_, Sem.run_bind, run_underlying hu, Result.andThen_ok, run_sizeOf' hns, run_underlying huu, Sem.run_pure, List.getElem?_toArray, List.getElem?_cons_zero, List.getElem?_cons_succ]
  rw [if_neg (by simp)]
  simp only [Sem.run_bind, hl, Result.andThen_ok]
  rw [if_neg hc]
  simp only [Sem.run_bind, typeInfo, run_program, Result.andThen_ok, hi, Sem.run_pure]
  have imax : IntKind.i64.max = 9223372036854775807 := rfl
  rw [if_neg (by rw [imax]; omega)]
  simp only [Sem.run_bind, run_program, Result.andThen_ok, hi, Sem.run_pure]
  have e48 : (2:Nat) ^ 48 = 281474976710656 := rfl
  rw [if_neg (by rw [e48]; omega)]
  simp only [Sem.run_bind, run_choose, Question.forced, Result.andThen_ok, run_program, hi, Sem.run_pure, run_askRoom, Bool.not_false, if_true, Bool.false_eq_true, if_false, ho, hf, hz, run_newRow]
theorem Sim.setExt (s : Sim w0 μ h w) {r sz : Nat} {ex ext : Bool} {kin : List Nat} {cs : List AV} (hr : h.row r = some (.cells sz ex ext kin cs)) : Sim w0 μ (h.put r (.cells sz ex true kin cs)) w := by
  have row : ∀ j x, (h.put r (.cells sz ex true kin cs)).row j = some x → (j = r ∧ x = .cells sz ex true kin cs) ∨ (j ≠ r ∧ h.row j = some x) := by
    intro j x hx
    by_cases hjr : j = r
    · subst hjr; rw [AH.row_put_same, hr] at hx; simp at hx; exact .inl ⟨rfl, hx.symm⟩
    · rw [AH.row_put_ne hjr] at hx; exact .inr ⟨hjr, hx⟩
  refine ⟨s.dom, ?_, ?_, s.below⟩
  · intro j p x hp hx
    rcases row j x hx with ⟨rfl, rfl⟩ | ⟨_, hx⟩
    · have := s.rows j p _ hp hr; exact this
    · exact s.rows j p x hp hx
  · intro r1 r2 p1 p2 x1 x2 hlt e1 e2 f1 f2 l1 l2 hbb
    rcases row r1 x1 f1 with ⟨rfl, rfl⟩ | ⟨m1, g1⟩
    · rcases row r2 x2 f2 with ⟨rfl, rfl⟩ | ⟨m2, g2⟩
      · omega
      · obtain ⟨a, b, c, d, a', b', c', d', e', k1, k2, k3, k4⟩ := s.sep r1 r2 p1 p2 _ x2 hlt e1 e2 hr g2 rfl l2 hbb
        cases k1; exact ⟨_, _, _, _, _, _, _, _, _, rfl, k2, k3, k4⟩
    · rcases row r2 x2 f2 with ⟨rfl, rfl⟩ | ⟨m2, g2⟩
      · obtain ⟨a, b, c, d, a', b', c', d', e', k1, k2, k3, k4⟩ := s.sep r1 r2 p1 p2 x1 _ hlt e1 e2 g1 hr l1 rfl hbb
        cases k2; exact ⟨_, _, _, _, _, _, _, _, _, k1, rfl, k3, k4⟩
      · exact s.sep r1 r2 p1 p2 x1 x2 hlt e1 e2 g1 g2 l1 l2 hbb
theorem Sim.extend (s : Sim w0 μ h w) {r sz n o len k : Nat} {ex : Bool} {kin : List Nat} {cs new : List AV} {vs : List Value} {p : Pl} {h' : AH} (hr : h.row r = some (.cells sz ex false kin cs)) (hp : μ r = some p)
    (hsz : sz = n) (ho : o + len * n = cs.length) (hk : k ≤ p.x) (hnew : new.length = k * n) (hv : VRs μ new vs) (hsc : new.all AV.scalar = true)
    (e : (h.put r (.cells sz ex true kin cs)).new (.cells n false false (r :: kin) ((cs.drop o).take (len * n) ++ new)) = some h') :
    ∃ w', (storeCells ⟨p.b, p.o + cs.length, none⟩ vs).run P w = .ok () w' ∧ Sim w0 (upd μ h.n ⟨p.b, p.o + o, p.x - k⟩) h' w' ∧ h'.n = h.n + 1 := by
  obtain ⟨C, T, hC, hs, hrel, hex⟩ := s.cells hp hr
  have hd := s.dom r p hp
  have hlen := hv.length
  subst hsz
  have hroom : k * sz + (p.x - k) * sz = p.x * sz := by rw [← Nat.add_mul]; congr 1; omega
  have hold : ((cs.drop o).take (len * sz)).length = len * sz := by simp; omega
  have hrun := run_storeCells_at (P := P) p.b (p.o + cs.length) T vs 0 C w hC (by omega) (all_scalar hv hsc)
  simp only [Nat.add_zero] at hrun
  obtain ⟨n1, n2, n3, n4⟩ := AH.row_new e
  have hn0 : (h.put r (.cells sz ex true kin cs)).n = h.n := rfl
  rw [hn0] at n1 n2 n3 n4
  have hrn : r ≠ h.n := by omega
  have hnone := s.none_new (Nat.le_refl h.n)
  have row : ∀ j x, h'.row j = some x → (j = h.n ∧ x = .cells sz false false (r :: kin) ((cs.drop o).take (len * sz) ++ new)) ∨ (j = r ∧ x = .cells sz ex true kin cs) ∨ (j ≠ h.n ∧ j ≠ r ∧ h.row j = some x) := by
    intro j x hx
    by_cases hj : j = h.n
    · subst hj; rw [n2] at hx; cases hx; exact .inl ⟨rfl, rfl⟩
    · rw [n4 j hj] at hx
      by_cases hjr : j = r
      · subst hjr; rw [AH.row_put_same, hr] at hx; simp at hx; exact .inr (.inl ⟨rfl, hx.symm⟩)
      · rw [AH.row_put_ne hjr] at hx; exact .inr (.inr ⟨hj, hjr, hx⟩)
  let C' : Array Value := (C.toList.take (p.o + cs.length) ++ vs ++ C.toList.drop (p.o + cs.length + vs.length)).toArray
  have hC' : (w.setRow p.b C').heap[p.b]? = some (.cells C' T (0, 0)) := setRow_heap w p.b C _ T (0, 0) hC
  have hsize : C'.size = C.size := by simp [C']; omega
  have hget : ∀ i, C'[i]? = if i < p.o + cs.length then C[i]? else if i < p.o + cs.length + vs.length then vs[i - (p.o + cs.length)]? else C[i]? := by
    intro i
    have := splice_get C.toList vs (p.o + cs.length) i (by simp; omega)
    rw [← Array.getElem?_toList]
    simp only [Array.getElem?_toList] at this
    exact this
  refine ⟨_, hrun, ⟨?_, ?_, ?_, below_setRow' s.below hd.2.1 _⟩, n1⟩
  · intro j q hj
    by_cases hjn : j = h.n
    · subst hjn; rw [upd_same] at hj; cases hj; exact ⟨by omega, hd.2.1, by simpa using hd.2.2⟩
    · rw [upd_ne hjn] at hj
      have := s.dom j q hj
      exact ⟨by omega, this.2.1, by simpa using this.2.2⟩
  · intro j q x hj hx
    rcases row j x hx with ⟨rfl, rfl⟩ | ⟨rfl, rfl⟩ | ⟨hjn, hjr, hx'⟩
    · rw [upd_same] at hj; cases hj
      refine ⟨C', T, hC', ?_, ?_, fun hh => by cases hh⟩
      · rw [hsize, List.length_append, hold, hnew]
        show p.o + o + (len * sz + k * sz) + (p.x - k) * sz ≤ C.size
        omega
      · intro i v hi
        show ∃ c, C'[p.o + o + i]? = some c ∧ _
        rw [hget]
        by_cases h1 : i < len * sz
        · rw [List.getElem?_append_left (by omega), List.getElem?_take, if_pos h1, List.getElem?_drop] at hi
          obtain ⟨c, a, b⟩ := hrel (o + i) v hi
          rw [if_pos (by omega)]
          exact ⟨c, by rw [show p.o + o + i = p.o + (o + i) from by omega]; exact a, b.mono (le_upd hnone)⟩
        · rw [List.getElem?_append_right (by omega), hold] at hi
          obtain ⟨c, a, b⟩ := hv.get hi
          have hlt := (List.getElem?_eq_some_iff.1 a).1
          rw [if_neg (by omega), if_pos (by omega)]
          exact ⟨c, by rw [show p.o + o + i - (p.o + cs.length) = i - len * sz from by omega]; exact a, b.mono (le_upd hnone)⟩
    · rw [upd_ne hrn] at hj
      rw [hp] at hj; cases hj
      refine ⟨C', T, hC', by rw [hsize]; exact hs, ?_, hex⟩
      intro i v hi
      have hlt := (List.getElem?_eq_some_iff.1 hi).1
      obtain ⟨c, a, b⟩ := hrel i v hi
      exact ⟨c, by rw [hget, if_pos (by omega)]; exact a, b.mono (le_upd hnone)⟩
    · rw [upd_ne hjn] at hj
      cases hl : x.live with
      | false => cases x <;> first | trivial | cases hl
      | true =>
        by_cases hb : q.b = p.b
        · obtain ⟨hkin, sz1, ex1, kin1, cs1, rfl, hend⟩ := s.shares hp hr hj hx' hl hjr hb
          obtain ⟨C1, T1, hC1, hs1, hrel1, hex1⟩ := s.rows j q _ hj hx'
          rw [hb, hC] at hC1; cases hC1
          refine ⟨C', T, by rw [hb]; exact hC', by rw [hsize]; exact hs1, ?_, hex1⟩
          intro i v hi
          have hlt := (List.getElem?_eq_some_iff.1 hi).1
          obtain ⟨c, a, b⟩ := hrel1 i v hi
          exact ⟨c, by rw [hget, if_pos (by omega)]; exact a, b.mono (le_upd hnone)⟩
        · exact (s.rows j q x hj hx').mono (le_upd hnone) (setRow_other w p.b q.b _ hb)
  · intro r1 r2 p1 p2 x1 x2 hlt e1 e2 f1 f2 l1 l2 hbb
    have s2 := s.setExt hr
    rcases row r2 x2 f2 with ⟨rfl, rfl⟩ | h2
    · rw [upd_same] at e2; cases e2
      rw [upd_ne (by omega)] at e1
      refine ?_
      rcases row r1 x1 f1 with ⟨rfl, _⟩ | ⟨rfl, rfl⟩ | ⟨m1, m2, g1⟩
      · omega
      · rw [hp] at e1; cases e1
        exact ⟨_, _, _, _, _, _, _, _, _, rfl, rfl, by simp, by rw [List.length_append, hold]; show p.o + cs.length ≤ p.o + o + _; omega⟩
      · obtain ⟨hkin, sz1, ex1, kin1, cs1, rfl, hend⟩ := s.shares hp hr e1 g1 l1 m2 hbb
        exact ⟨_, _, _, _, _, _, _, _, _, rfl, rfl, by simp [hkin], by rw [List.length_append, hold]; show p1.o + cs1.length ≤ p.o + o + _; omega⟩
    · have hr2 : r2 ≠ h.n := by rcases h2 with ⟨rfl, _⟩ | ⟨m, _⟩ <;> assumption
      have hr1 : r1 ≠ h.n := by
        rw [upd_ne hr2] at e2
        have := (s.dom r2 p2 e2).1; omega
      rw [upd_ne hr1] at e1; rw [upd_ne hr2] at e2
      exact s2.sep r1 r2 p1 p2 x1 x2 hlt e1 e2 (by rw [← n4 r1 hr1]; exact f1) (by rw [← n4 r2 hr2]; exact f2) l1 l2 hbb
end
end Go.Ax
end

section
namespace Go.Ax
open Go.RowKit (Below)
section
variable {P : Program} {w0 w : World} {μ : Mu} {h : AH}
theorem zeroCells_size (z : Array Value) (n : Nat) : (Builtin.zeroCells z n).size = n * z.size := by simp [Builtin.zeroCells]
theorem grown_ok {μ : Mu} {r sz need cap : Nat} {kin : List Nat} {cs : List AV} {ext : Bool} {C R : Array Value} {T : TypeId} {H : Array Obj} (hr : μ r = none) (hv : VRs μ cs C.toList) (hlen : cs.length = need * sz) (hR : R.size = (cap - need) * sz) :
    RowOk (upd μ r ⟨H.size, 0, cap - need⟩) (.cells sz false ext kin cs) ⟨H.size, 0, cap - need⟩ (H.push (.cells (C ++ R) T)) := by
  have hl := hv.length
  simp at hl
  refine ⟨C ++ R, T, by simp, ?_, ?_, fun hh => by cases hh⟩
  · simp [hR]; omega
  · intro i v hi
    obtain ⟨c, hc, hr'⟩ := hv.get hi
    have hlt := (List.getElem?_eq_some_iff.1 hi).1
    refine ⟨c, ?_, hr'.mono (le_upd hr)⟩
    rw [Array.getElem?_toList] at hc
    rw [Array.getElem?_append_left (by show 0 + i < C.size; omega)]
    simpa using hc
theorem append_sound (s : Sim w0 μ h w) {t u ty elem e2 : TypeId} {a b v : AV} {x y : Value} {h' : AH} (hu : P.underlying t = some (.slice elem)) (huu : P.underlying u = some (.slice e2))
    (hx : VR μ a x) (hy : VR μ b y) (e : appendA P h elem a b = some (v, h')) :
    ∃ c w' μ', (Builtin.append_ #[t, u] ty #[x, y]).run P w = .ok c w' ∧ VR μ' v c ∧ Sim w0 μ' h' w' ∧ Grows h.n μ μ' ∧ h.n ≤ h'.n := by
  unfold appendA at e
  split at e
  · cases e
  · rename_i i hi
    split at e
    · rename_i z new k hz hsrc
      split at e
      · cases e
      · rename_i hcond
        have hsz0 : i.size ≠ 0 := fun hh => hcond (.inl hh)
        have hzl : z.cells.length = i.size := Classical.byContradiction fun hh => hcond (.inr (.inl hh))
        have hby : i.bytes ≤ 2 ^ 16 := by
          have : ¬ i.bytes > 2 ^ 16 := fun hh => hcond (.inr (.inr (.inl hh)))
          omega
        have hsc : new.all AV.scalar = true := by
          cases hh : new.all AV.scalar with
          | true => rfl
          | false => exact absurd (.inr (.inr (.inr hh))) hcond
        have hn : size P elem = some i.size := by unfold size; rw [hi]; rfl
        obtain ⟨hl, ⟨vs, hf, hvs⟩, hnew⟩ := source_sound (P := P) s hy hsrc
        have s' : Sim w0 μ h { w with drawn := w.drawn + 1 } := s.drew
        obtain ⟨_, ⟨vs', hf', hvs'⟩, _⟩ := source_sound (P := P) s' hy hsrc
        obtain ⟨zc, hzr, hzv⟩ := run_zeroValue' (w := { w with drawn := w.drawn + 1 }) (μ := μ) hz
        have hzs : zc.cells.size = i.size := by have := hzv.cells.length; simp at this; omega
        split at e
        · -- nil
          simp only [VR] at hx; subst hx
          split at e
          · rename_i hk
            simp at e; obtain ⟨rfl, rfl⟩ := e
            refine ⟨.slice none (0 + k) 0, w, μ, ?_, by simp only [VR]; rw [hk], s, .refl _ _, Nat.le_refl _⟩
            rw [append_room hu huu hn hl hf (by omega)]; rfl
          · rename_i hk
            split at e
            · cases e
            · rename_i hbig
              cases hnw : h.new (.cells i.size false false [] new) with
              | none => simp [hnw] at e
              | some h1 =>
                simp [hnw] at e; obtain ⟨rfl, rfl⟩ := e
                obtain ⟨cap, hcap, hrun⟩ := append_grow (ty := ty) (sLen := 0) (sCap := 0) (base := none) (old := #[]) hu huu hi rfl hzr hl hf' rfl (by omega) (by omega) hby
                have hnone := s.none_new (Nat.le_refl h.n)
                obtain ⟨s1, g1, n1⟩ := s'.new (p := ⟨w.heap.size, 0, cap - (0 + k)⟩) hnw rfl (grown_ok (need := 0 + k) (C := #[] ++ vs') (T := elem) (R := Builtin.zeroCells zc.cells (cap - (0 + k))) (H := w.heap) hnone (by simpa using hvs') (by rw [hnew]; simp) (by rw [zeroCells_size, hzs]))
                refine ⟨_, _, _, hrun, ?_, s1, g1, by omega⟩
                simp only [VR]
                exact ⟨_, upd_same _ _ _, by congr 1 <;> simp <;> omega⟩
        · -- slice
          rename_i r o len cap
          simp only [VR] at hx; obtain ⟨p, hp, rfl⟩ := hx
          split at e
          · rename_i hle
            split at e
            · rename_i hk
              simp at e; obtain ⟨rfl, rfl⟩ := e
              have hvn : vs.toList = [] := by
                have := hvs.length
                rw [hnew, hk] at this; simp at this
                rw [Array.eq_empty_of_size_eq_zero this.symm]
              refine ⟨.slice (some ⟨p.b, p.o + o, none⟩) (len + k) (cap + p.x), w, μ, ?_, by simp only [VR]; exact ⟨p, hp, by simp [hk]⟩, s, .refl _ _, Nat.le_refl _⟩
              rw [append_room hu huu hn hl hf (by omega)]
              simp [hvn, storeCells]
            · cases hst : storeA h r (o + len * i.size) new with
              | none => simp [hst] at e
              | some h1 =>
                simp [hst] at e; obtain ⟨rfl, rfl⟩ := e
                obtain ⟨w', hr, s1, n1⟩ := s.store (P := P) hp hst hvs
                refine ⟨.slice (some ⟨p.b, p.o + o, none⟩) (len + k) (cap + p.x), w', μ, ?_, by simp only [VR]; exact ⟨p, hp, rfl⟩, s1, .refl _ _, by omega⟩
                rw [append_room hu huu hn hl hf (by omega)]
                simp only [addr_add, Nat.add_assoc, hr, Result.andThen_ok]
          · rename_i hle
            split at e
            · cases e
            · rename_i hbig
              split at e
              · rename_i sz ex ext kin cs old hrow hold
                obtain ⟨C, T, hC, hs, hrel, hex⟩ := s.cells hp hrow
                obtain ⟨ods, hor, hov, hon⟩ := s'.loadCells (P := P) hp hold
                have hfo : ∀ sCap, (Builtin.firstCells i.size len (.slice (some ⟨p.b, p.o + o, none⟩) len sCap)).run P { w with drawn := w.drawn + 1 } = .ok ods { w with drawn := w.drawn + 1 } := fun sCap => by simpa [Builtin.firstCells] using hor
                have holdl : old.length = len * i.size := by have := hov.length; simp at this; omega
                split at e
                · rename_i hexx
                  cases hnw : h.new (.cells i.size false false [] (old ++ new)) with
                  | none => simp [hnw] at e
                  | some h1 =>
                    simp [hnw] at e; obtain ⟨rfl, rfl⟩ := e
                    have hx0 := hex hexx
                    obtain ⟨ncap, hcap, hrun⟩ := append_grow (ty := ty) (sLen := len) (sCap := cap + p.x) (base := some ⟨p.b, p.o + o, none⟩) hu huu hi rfl hzr hl hf' (hfo _) (by omega) (by omega) hby
                    have hnone := s.none_new (Nat.le_refl h.n)
                    obtain ⟨s1, g1, n1⟩ := s'.new (p := ⟨w.heap.size, 0, ncap - (len + k)⟩) hnw rfl (grown_ok (need := len + k) (C := ods ++ vs') (T := elem) (R := Builtin.zeroCells zc.cells (ncap - (len + k))) (H := w.heap) hnone (by simpa using hov.append hvs') (by rw [List.length_append, holdl, hnew, Nat.add_mul]) (by rw [zeroCells_size, hzs]))
                    refine ⟨_, _, _, hrun, ?_, s1, g1, by omega⟩
                    simp only [VR]
                    exact ⟨_, upd_same _ _ _, by congr 1; show _ = len + k + (ncap - (len + k)); omega⟩
                · rename_i hexx
                  split at e
                  · rename_i hc2
                    obtain ⟨hext, hszn, hcl, hol⟩ := hc2
                    subst hext; subst hcl
                    cases hnw : (h.put r (.cells sz ex true kin cs)).new (.cells i.size false false (r :: kin) (old ++ new)) with
                    | none => simp [hnw] at e
                    | some h1 =>
                      simp [hnw] at e; obtain ⟨rfl, rfl⟩ := e
                      have hnone := s.none_new (Nat.le_refl h.n)
                      obtain ⟨sz', ex', ext', kin', cs', hrow', hle', hold'⟩ := cellsAt_some hold
                      rw [hrow] at hrow'; cases hrow'
                      by_cases hroom : cap + k ≤ cap + p.x
                      · -- in place
                        obtain ⟨w', hr, s1, n1⟩ := s.extend (P := P) (k := k) hrow hp hszn hol (by omega) hnew hvs hsc (by rw [← hold']; exact hnw)
                        refine ⟨.slice (some ⟨p.b, p.o + o, none⟩) (cap + k) (cap + p.x), w', _, ?_, ?_, s1, ⟨le_upd hnone, fun j hj => upd_ne (by omega)⟩, by omega⟩
                        · rw [append_room hu huu hn hl hf hroom]
                          simp only [addr_add, show p.o + o + cap * i.size = p.o + cs.length from by omega, hr, Result.andThen_ok]
                        · simp only [VR]
                          exact ⟨_, upd_same _ _ _, by congr 1; show cap + p.x = cap + k + (p.x - k); omega⟩
                      · obtain ⟨ncap, hcap, hrun⟩ := append_grow (ty := ty) (sLen := cap) (sCap := cap + p.x) (base := some ⟨p.b, p.o + o, none⟩) hu huu hi rfl hzr hl hf' (hfo _) hroom (by omega) hby
                        have s2 := s'.setExt hrow
                        obtain ⟨s1, g1, n1⟩ := s2.new (p := ⟨w.heap.size, 0, ncap - (cap + k)⟩) hnw rfl (grown_ok (need := cap + k) (C := ods ++ vs') (T := elem) (R := Builtin.zeroCells zc.cells (ncap - (cap + k))) (H := w.heap) hnone (by simpa using hov.append hvs') (by rw [List.length_append, holdl, hnew, Nat.add_mul]) (by rw [zeroCells_size, hzs]))
                        refine ⟨_, _, _, hrun, ?_, s1, g1, by have : (h.put r (.cells sz ex true kin cs)).n = h.n := rfl; omega⟩
                        simp only [VR]
                        exact ⟨_, upd_same _ _ _, by congr 1; show _ = cap + k + (ncap - (cap + k)); omega⟩
                  · cases e
              · cases e
        · cases e
    · cases e
end
end Go.Ax
end

section
namespace Go.Ax
section
variable {P : Program} {w0 w : World} {μ : Mu} {h : AH}
def OpPost (P : Program) (w0 : World) (μ : Mu) (h : AH) (ρ : Operand → Value) (o : Oper) (w : World) : AN → Prop
  | .val v h' => ∃ c w' μ', (execOp ρ o).run P w = .ok (.value c) w' ∧ VR μ' v c ∧ Sim w0 μ' h' w' ∧ Grows h.n μ μ' ∧ h.n ≤ h'.n
  | .skip h' => ∃ w', (execOp ρ o).run P w = .ok .skip w' ∧ Sim w0 μ h' w' ∧ h.n ≤ h'.n
  | .enter f args => ∃ args', (execOp ρ o).run P w = .ok (.enter f args') w ∧ VRs μ args args'.toList
  | .defer fn args cap => ∃ args' cap', (execOp ρ o).run P w = .ok (.defer { target := .fn fn cap', args := args' }) w ∧ VRs μ args args'.toList ∧ VRs μ cap cap'.toList
  | .recover => (execOp ρ o).run P w = .ok .recover w
theorem callA_sound {f g : FuncId} {args as : List AV} {args' : Array Value} (hv : VRs μ args args'.toList) (e : callA P f args = some (.enter g as)) :
    (callFunc f args').run P w = .ok (.enter g args') w ∧ VRs μ as args'.toList := by
  unfold callA at e
  split at e
  · rename_i fn hf
    split at e
    · cases e
    · rename_i hname
      split at e
      · cases e
      · rename_i hbody
        cases e
        refine ⟨?_, hv⟩
        simp only [callFunc, Sem.run_bind, run_program, Result.andThen_ok, hf]
        rw [if_neg hname, if_neg (by simpa using hbody)]
        rfl
  · cases e
theorem callA_enter {f : FuncId} {args : List AV} {an : AN} (e : callA P f args = some an) : ∃ g as, an = .enter g as := by
  unfold callA at e
  split at e
  · split at e
    · cases e
    · split at e
      · cases e
      · cases e; exact ⟨_, _, rfl⟩
  · cases e
theorem invokeA_enter {fn : Fn} {args cap : List AV} {an : AN} (e : invokeA P fn args cap = some an) : ∃ g as, an = .enter g as := by
  unfold invokeA at e
  split at e
  · exact callA_enter e
  · split at e
    · split at e
      · split at e
        · split at e
          · split at e <;> first | (cases e; done) | exact callA_enter e
          · cases e
        · cases e
      · cases e
    · cases e
  · cases e
theorem invoke_sound {fn : Fn} {args cap as : List AV} {args' cap' : Array Value} {g : FuncId} (ha : VRs μ args args'.toList) (hc : VRs μ cap cap'.toList) (e : invokeA P fn args cap = some (.enter g as)) :
    ∃ as', (invoke (.fn fn cap') args').run P w = .ok (.enter g as') w ∧ VRs μ as as'.toList := by
  unfold invokeA at e
  split at e
  · rename_i f
    obtain ⟨h1, h2⟩ := callA_sound (w := w) (args' := args' ++ cap') (by simpa using ha.append hc) e
    exact ⟨_, by simpa [invoke] using h1, h2⟩
  · rename_i name
    split at e
    · rename_i t v rest
      split at e
      · rename_i i d hi hd
        split at e
        · rename_i m hm
          split at e
          · rename_i hpath
            obtain ⟨c, cs, hcs, hv, hrest⟩ := ha.cons_inv
            simp only [VR] at hv; obtain ⟨x, rfl, hx⟩ := hv
            have h0 : args'[0]? = some (.iface t x) := by rw [← Array.getElem?_toList, hcs]; rfl
            have hlen : args'.size = cs.length + 1 := by rw [← Array.length_toList, hcs]; rfl
            have hext : (args'.extract 1 args'.size).toList = cs := by
              simp [hcs]; rw [hlen]; simp
            obtain ⟨n, hfuel⟩ : ∃ n, P.types.size + Made.depth = n + 1 := ⟨P.types.size + 99, rfl⟩
            have hnil : m.path.toList = [] := by simpa using hpath
            have fin : ∀ (f : FuncId) (pr : Bool), m.func = some (f, pr) → (∀ nm, (receiverAt t (.val x) pr nm).run P w = .ok x w) → callA P f (v :: rest) = some (.enter g as) →
                ∃ as', (invoke (.fn (.method name) cap') args').run P w = .ok (.enter g as') w ∧ VRs μ as as'.toList := by
              intro f pr hfm hrec hcall
              obtain ⟨h1, h2⟩ := callA_sound (w := w) (args' := #[x] ++ args'.extract 1 args'.size) (by rw [Array.toList_append, hext]; exact .cons hx hrest) hcall
              refine ⟨_, ?_, h2⟩
              simp only [invoke, h0, callMethod, Sem.run_bind, run_program, Result.andThen_ok, hfuel, method, typeInfo, hi, Sem.run_pure, hm, hnil, follow, hfm, hrec]
              exact h1
            split at e
            · cases e
            · rename_i f el hfm
              refine fin f true hfm (fun nm => ?_) e
              simp [receiverAt, run_underlying hd, Place.get]
            · rename_i d1 _ _ f hfm hne
              refine fin f false hfm (fun nm => ?_) e
              have hnp : ∀ el, d1 ≠ .pointer el := fun el hh => hne el hh
              simp only [receiverAt, Sem.run_bind, run_underlying hd, Result.andThen_ok]
              cases d1 <;> first | exact absurd rfl (hnp _) | simp [Place.get]
            · cases e
          · cases e
        · cases e
      · cases e
    · cases e
  · cases e
theorem callee_sound {T : AT} {ρ : Operand → Value} {c : Call} {ty : TypeId} {fn : Fn} {args cap : List AV} (he : ∀ x ∈ c.operands.toList, Known μ T ρ x) (e : calleeA T c = some (fn, args, cap)) :
    ∃ args' cap', (resolve ρ c ty).run P w = .ok { target := .fn fn cap', args := args' } w ∧ VRs μ args args'.toList ∧ VRs μ cap cap'.toList := by
  unfold calleeA at e
  split at e
  · rename_i recv name hcal
    split at e
    · rename_i r a hr ha
      cases e
      have h1 := he recv (by simp [Call.operands, hcal]) _ hr
      have h2 := opds_VRs (μ := μ) (ρ := ρ) c.args.toList a (fun x hx => he x (by simp [Call.operands, hcal]; right; simpa using hx)) ha
      refine ⟨#[ρ recv] ++ c.args.map ρ, #[], ?_, ?_, .nil⟩
      · simp only [resolve, hcal]; rfl
      · simpa using VRs.cons h1 h2
    · cases e
  · rename_i f hcal
    split at e
    · rename_i fn' first cap0 a hf ha
      cases e
      have h1 := he f (by simp [Call.operands, hcal]) _ hf
      have h2 := opds_VRs (μ := μ) (ρ := ρ) c.args.toList a (fun x hx => he x (by simp [Call.operands, hcal]; right; simpa using hx)) ha
      simp only [VR] at h1; obtain ⟨f', c', hv, hfv, hcv⟩ := h1
      refine ⟨f' ++ c.args.map ρ, c', ?_, ?_, hcv⟩
      · simp only [resolve, hcal, hv, Deferred.ofValue]; rfl
      · simpa using hfv.append h2
    · cases e
  · cases e
theorem loud_sound (s : Sim w0 μ h w) {T : AT} {o : Oper} {ρ : Operand → Value} {an : AN} (he : ∀ x ∈ o.op.operands.toList, Known μ T ρ x) (e : loudA P T h o.op = some an) : OpPost P w0 μ h ρ o w an := by
  have key : ∀ op, o.op = op → (∀ x ∈ op.operands.toList, Known μ T ρ x) → loudA P T h op = some an → OpPost P w0 μ h ρ o w an := by
    intro op hop he e
    unfold loudA at e
    split at e
    · -- store
      rename_i t a x
      split at e
      · rename_i r o' xv ha hx
        split at e
        · rename_i hsz
          cases hst : storeA h r o' xv.cells with
          | none => simp [hst] at e
          | some h' =>
            simp [hst] at e; subst e
            have hav := he a (by simp [Op.operands]) _ ha
            have hxv := he x (by simp [Op.operands]) _ hx
            simp only [VR] at hav; obtain ⟨p, hp, hav⟩ := hav
            obtain ⟨w', hr, s', n'⟩ := s.store (P := P) hp hst hxv.cells
            have hcl := hxv.cells.length
            refine ⟨w', ?_, s', by omega⟩
            unfold execOp; rw [hop]
            simp only [Sem.run_bind, Instr.storeAt, hav, Instr.sureAddr, Sem.run_pure, Result.andThen_ok, storeVar, run_sizeOf' hsz]
            rw [if_neg (by simp at hcl; simp; omega)]
            simp [hr]
        · cases e
      · cases e
    · -- mapUpdate
      rename_i t m k x
      split at e
      · rename_i mv kv xv hm hk hx
        cases hst : mapUpdA P h t mv kv xv with
        | none => simp [hst] at e
        | some h' =>
          simp [hst] at e; subst e
          obtain ⟨w', hr, s', n'⟩ := mapUpd_sound s (he m (by simp [Op.operands]) _ hm) (he k (by simp [Op.operands]) _ hk) (he x (by simp [Op.operands]) _ hx) hst
          exact ⟨w', by unfold execOp; rw [hop]; simp [hr], s', by omega⟩
      · cases e
    · -- insert
      rename_i t m k x
      split at e
      · rename_i mv kv xv hm hk hx
        cases hst : mapUpdA P h t mv kv xv with
        | none => simp [hst] at e
        | some h' =>
          simp [hst] at e; subst e
          obtain ⟨w', hr, s', n'⟩ := mapUpd_sound s (he m (by simp [Op.operands]) _ hm) (he k (by simp [Op.operands]) _ hk) (he x (by simp [Op.operands]) _ hx) hst
          exact ⟨w', by unfold execOp; rw [hop]; simp [hr], s', by omega⟩
      · cases e
    · -- range
      rename_i t x
      split at e
      · rename_i k el hu hx
        cases hnw : h.new .iter with
        | none => simp [hnw] at e
        | some h' =>
          simp [hnw] at e; subst e
          have hxv := he x (by simp [Op.operands]) _ hx
          simp only [VR] at hxv
          have hnone := s.none_new (Nat.le_refl h.n)
          obtain ⟨s1, g1, n1⟩ := s.new (o := .mapIter none 0 #[] 0) (p := ⟨w.heap.size, 0, 0⟩) hnw rfl ⟨rfl, by simp⟩
          refine ⟨.pointer (some ⟨w.heap.size, 0, none⟩), _, _, ?_, by simp only [VR]; exact ⟨_, upd_same _ _ _, rfl⟩, s1, g1, by omega⟩
          unfold execOp; rw [hop]
          simp [hxv, Instr.range, run_underlying hu]
      · cases e
    · -- append
      rename_i s1 x t u
      split at e
      · rename_i sv xv elem e2 hs hx hu huu
        cases hap : appendA P h elem sv xv with
        | none => simp [hap] at e
        | some y =>
          obtain ⟨v, h'⟩ := y
          simp [hap] at e; subst e
          obtain ⟨c, w', μ', hr, hv, s', g', n'⟩ := append_sound (ty := o.type) s hu huu (he s1 (by simp [Op.operands, Call.operands]) _ hs) (he x (by simp [Op.operands, Call.operands]) _ hx) hap
          exact ⟨c, w', μ', by unfold execOp; rw [hop]; simp [resolve, invoke, builtin, hr], hv, s', g', n'⟩
      · cases e
    · -- recover
      cases e
      show (execOp ρ o).run P w = _
      unfold execOp; rw [hop]; simp [resolve, invoke, builtin]
    · -- a call of a value
      rename_i f args argTypes
      cases hc : calleeA T { callee := .value f, args, argTypes } with
      | none => simp [hc] at e
      | some y =>
        obtain ⟨fn, as, cap⟩ := y
        simp only [hc, Option.bind_some] at e
        obtain ⟨args', cap', hr, ha, hcp⟩ := callee_sound (P := P) (w := w) (ty := o.type) (fun x hx => he x hx) hc
        obtain ⟨g, gs, rfl⟩ := invokeA_enter e
        obtain ⟨as', h1, h2⟩ := invoke_sound (w := w) ha hcp e
        exact ⟨as', by unfold execOp; rw [hop]; simp [hr, h1], h2⟩
    · -- a call of a method
      rename_i r m args argTypes
      cases hc : calleeA T { callee := .invoke r m, args, argTypes } with
      | none => simp [hc] at e
      | some y =>
        obtain ⟨fn, as, cap⟩ := y
        simp only [hc, Option.bind_some] at e
        obtain ⟨args', cap', hr, ha, hcp⟩ := callee_sound (P := P) (w := w) (ty := o.type) (fun x hx => he x hx) hc
        obtain ⟨g, gs, rfl⟩ := invokeA_enter e
        obtain ⟨as', h1, h2⟩ := invoke_sound (w := w) ha hcp e
        exact ⟨as', by unfold execOp; rw [hop]; simp [hr, h1], h2⟩
    · -- defer
      rename_i f args argTypes
      cases hc : calleeA T { callee := .value f, args, argTypes } with
      | none => simp [hc] at e
      | some y =>
        obtain ⟨fn, as, cap⟩ := y
        simp [hc] at e; subst e
        obtain ⟨args', cap', hr, ha, hcp⟩ := callee_sound (P := P) (w := w) (ty := o.type) (fun x hx => he x hx) hc
        exact ⟨args', cap', by unfold execOp; rw [hop]; simp [hr], ha, hcp⟩
    · cases e
  exact key o.op rfl he e
theorem op_sound (s : Sim w0 μ h w) {T : AT} {o : Oper} {ρ : Operand → Value} {an : AN} (he : ∀ x ∈ o.op.operands.toList, Known μ T ρ x) (e : opA P T h o.op = some an) : OpPost P w0 μ h ρ o w an := by
  unfold opA at e
  split at e
  · cases hc : calmA P T h o.op with
    | none => simp [hc] at e
    | some v =>
      simp [hc] at e; subst e
      obtain ⟨c, hr, hv⟩ := calm_sound s he hc
      exact ⟨c, w, μ, hr, hv, s, .refl _ _, Nat.le_refl _⟩
  · split at e
    · split at e
      · rename_i row mk hl
        cases hn : h.new row with
        | none => simp [hn] at e
        | some h' =>
          simp [hn] at e; subst e
          obtain ⟨obj, c, hr, hall⟩ := lay_sound (P := P) (w := w) he hl
          obtain ⟨hok, hv⟩ := hall h.n (s.none_new (Nat.le_refl _))
          obtain ⟨s1, g1, n1⟩ := s.new (p := ⟨w.heap.size, 0, 0⟩) hn rfl hok
          exact ⟨c, _, _, hr, hv, s1, g1, by omega⟩
      · cases e
    · exact loud_sound s he e
end
end Go.Ax
end

section
namespace Go.Ax
section
variable {P : Program} {w0 : World}
structure TR (μ : Mu) (T : AT) (tmps : Array Value) : Prop where
  val : ∀ t v, T.val t = some v → VR μ v (tmps.getD t undef)
  dom : ∀ t, (T.get t).isSome = true → t < tmps.size
theorem TR.mono {μ μ' : Mu} {T : AT} {tmps : Array Value} (k : TR μ T tmps) (h : μ.le μ') : TR μ' T tmps := ⟨fun t v e => (k.val t v e).mono h, k.dom⟩
theorem get_set_isSome {α : Type} (x : α) (T : Tr α) (k t : Nat) : ((Tr.set x T k).get t).isSome = (T.get t).isSome := by
  by_cases h : t = k
  · subst h; rw [Tr.get_set_same]; cases T.get t <;> rfl
  · rw [Tr.get_set_ne _ _ _ _ h]
theorem TR.put {μ : Mu} {T : AT} {tmps : Array Value} (k : TR μ T tmps) {d : Option Tmp} {v : AV} {c : Value} (h : VR μ v c) :
    TR μ (T.put d v) (match d with | some d => tmps.setIfInBounds d c | none => tmps) := by
  cases d with
  | none => exact k
  | some d =>
    refine ⟨?_, ?_⟩
    · intro t u e
      by_cases ht : t = d
      · subst ht
        have hu := AT.val_put_same e; subst hu
        have hs : (T.get t).isSome = true := by
          cases hg : T.get t with
          | some _ => rfl
          | none => simp only [AT.put, AT.val, Tr.get_set_same, hg] at e; cases e
        have := k.dom t hs
        simp [Array.getD, this]
        exact h
      · rw [AT.val_put_ne (by intro hh; cases hh; exact ht rfl)] at e
        have := k.val t u e
        simp only [Array.getD_eq_getD_getElem?] at this ⊢
        rwa [Array.getElem?_setIfInBounds_ne (by omega)]
    · intro t ht
      simp only [AT.put] at ht
      rw [get_set_isSome] at ht
      simpa using k.dom t ht
def DRs (μ : Mu) : List ADef → List Deferred → Prop
  | [], l => l = []
  | d :: ds, l => ∃ args cap l', l = { target := .fn d.fn cap, args := args } :: l' ∧ VRs μ d.args args.toList ∧ VRs μ d.cap cap.toList ∧ DRs μ ds l'
theorem DRs.mono {μ μ' : Mu} (h : μ.le μ') : ∀ (D : List ADef) (l : List Deferred), DRs μ D l → DRs μ' D l
  | [], _, e => e
  | _ :: D, _, ⟨args, cap, l', e, a, b, r⟩ => ⟨args, cap, l', e, a.mono h, b.mono h, DRs.mono h D l' r⟩
structure AFR (w0 : World) (μ : Mu) (s : AF) (a : Act) (w : World) : Prop where
  T : TR μ s.T a.tmps
  D : DRs μ s.D a.defers
  h : Sim w0 μ s.h w
theorem known_of {μ : Mu} {T : AT} {a : Act} (k : TR μ T a.tmps) (x : Operand) : Known μ T a.eval x := by
  intro v e
  cases x with
  | tmp t => exact k.val t v e
  | const c => exact absV_VR μ c v e
  | global g => cases e
  | func f => cases e; simp only [VR]; exact ⟨#[], #[], rfl, .nil, .nil⟩
theorem wanted_of {μ : Mu} {ops : Array Oper} {T : AT} {tmps : Array Value} {o : Oper} {b : Bool}
    (k : ∀ j want d, o.guard = some (j, want) → (ops[j]?).bind (·.dst) = some d → (∀ v, T.val d = some v → VR μ v (tmps.getD d undef)) ∧ ((T.get d).isSome = true → d < tmps.size))
    (e : wantedA ops T o = some b) : Region.wanted o (yielded ops tmps) = b := by
  unfold wantedA at e
  unfold Region.wanted
  split at e
  · rename_i hg; cases e; rw [hg]
  · rename_i j want hg
    rw [hg]
    simp only
    split at e
    · cases e
    · rename_i d hd
      obtain ⟨kv, kd⟩ := k j want d hg hd
      unfold yielded
      rw [hd]
      simp only [Option.bind_some]
      split at e
      · rename_i b' hv
        cases e
        have hr := kv _ hv
        simp only [VR] at hr
        have hlt : d < tmps.size := kd (by
          unfold AT.val at hv; cases hg2 : T.get d with
          | none => simp [hg2] at hv
          | some _ => rfl)
        have hget : tmps[d]? = some (.bool b') := by
          simp only [Array.getD, hlt, dif_pos] at hr
          rw [Array.getElem?_eq_getElem hlt]
          exact congrArg some hr
        rw [hget]
        cases b' <;> cases want <;> rfl
      · rename_i v hne hv
        cases e
        have hr := kv _ hv
        have hlt : d < tmps.size := kd (by
          unfold AT.val at hv; cases hg2 : T.get d with
          | none => simp [hg2] at hv
          | some _ => rfl)
        have hget : tmps[d]? = some (tmps.getD d undef) := by
          simp [Array.getD, hlt]
        rw [hget]
        have hnb : ∀ b', tmps.getD d undef ≠ .bool b' := by
          intro b' hb
          rw [hb] at hr
          cases v <;> simp only [VR] at hr <;> first | (cases hr; done) | (obtain ⟨_, _, hr⟩ := hr; cases hr; done) | (obtain ⟨_, hr, _⟩ := hr; cases hr; done) | (obtain ⟨_, _, hr, _⟩ := hr; cases hr; done) | skip
          exact hne _ rfl
        cases hx : tmps.getD d undef <;> first | exact absurd hx (hnb _) | (cases want <;> rfl)
      · cases e
def RetOk (w0 : World) (μ : Mu) (h : AH) (v : AV) (h' : AH) (e : Ending) (w' : World) : Prop :=
  ∃ c μ', e = .returned c ∧ VR μ' v c ∧ Sim w0 μ' h' w' ∧ Grows h.n μ μ' ∧ h.n ≤ h'.n
structure BodyOk (P : Program) (w0 : World) (m : Nat) : Prop where
  call : ∀ g args h v h', abody P m false false g args h = some (v, h') → ∀ μ (args' : Array Value) w, VRs μ args args'.toList → Sim w0 μ h w → Calls P g args' w (RetOk w0 μ h v h')
  deferred : ∀ dl g args h v h', abody P m true dl g args h = some (v, h') → ∀ μ (args' : Array Value) w, VRs μ args args'.toList → Sim w0 μ h w →
    CallsD P g args' .returning w fun e u' w' => u' = .returning ∧ RetOk w0 μ h v h' e w'
def Next1 (w0 : World) (μ : Mu) (s s' : AF) (o : Oper) (a : Act) (K : Act → World → Prop) : Prop :=
  ∀ v c defers' w' μ', s'.T = s.T.put o.dst v → VR μ' v c → DRs μ' s'.D defers' → Sim w0 μ' s'.h w' → Grows s.h.n μ μ' → s.h.n ≤ s'.h.n → K ({ a with defers := defers' }.put o.dst c) w'
theorem aop1_sound {f : Nat} (hB : ∀ m, m < f → BodyOk P w0 m) {dl : Bool} {o : Oper} {s s' : AF} (e : aop1 P f dl o s = some s') {μ : Mu} {a : Act} {w : World}
    (hk : ∀ x ∈ o.op.operands.toList, Known μ s.T a.eval x) (hD : DRs μ s.D a.defers) (hS : Sim w0 μ s.h w) {K : Act → World → Prop} (hK : Next1 w0 μ s s' o a K) (Q : Exit → Act → World → Prop) :
    (dl = true ∧ (execOp a.eval o).run P w = .ok .recover w ∧ K (a.put o.dst .nilIface) w) ∨
    ((∀ w', (execOp a.eval o).run P w ≠ .ok .recover w') ∧ o.wp P a w K Q) := by
  cases f with
  | zero => simp [aop1] at e
  | succ f =>
    simp only [aop1] at e
    have heta : ({ a with defers := a.defers } : Act) = a := rfl
    cases ho : opA P s.T s.h o.op with
    | none => simp [ho] at e
    | some an =>
      have post := op_sound hS hk ho
      simp only [ho] at e
      cases an with
      | val v h' =>
        simp at e; subst e
        obtain ⟨c, w', μ', hr, hv, hS', hg, hn⟩ := post
        refine .inr ⟨(fun w'' hh => by rw [hr] at hh; cases hh), ?_⟩
        unfold Oper.wp; rw [hr]
        exact hK v c a.defers w' μ' rfl hv (hD.mono hg.1) hS' hg hn
      | skip h' =>
        simp at e; subst e
        obtain ⟨w', hr, hS', hn⟩ := post
        refine .inr ⟨(fun w'' hh => by rw [hr] at hh; cases hh), ?_⟩
        unfold Oper.wp; rw [hr]
        exact hK undefA undef a.defers w' μ rfl (by simp only [VR, undefA]; exact ⟨#[], rfl, .nil⟩) hD hS' (.refl _ _) hn
      | enter g args =>
        cases hb : abody P f false false g args s.h with
        | none => simp [hb] at e
        | some y =>
          obtain ⟨v, h'⟩ := y
          simp [hb] at e; subst e
          obtain ⟨args', hr, ha⟩ := post
          refine .inr ⟨(fun w'' hh => by rw [hr] at hh; cases hh), ?_⟩
          unfold Oper.wp; rw [hr]
          refine ((hB f (by omega)).call g args s.h v h' hb μ args' w ha hS).mono fun en w' hret => ?_
          obtain ⟨c, μ', rfl, hv, hS', hg, hn⟩ := hret
          exact hK v c a.defers w' μ' rfl hv (hD.mono hg.1) hS' hg hn
      | defer fn args cap =>
        simp at e; subst e
        obtain ⟨args', cap', hr, ha, hc⟩ := post
        refine .inr ⟨(fun w'' hh => by rw [hr] at hh; cases hh), ?_⟩
        unfold Oper.wp; rw [hr]
        exact hK undefA undef _ w μ rfl (by simp only [VR, undefA]; exact ⟨#[], rfl, .nil⟩) ⟨args', cap', a.defers, rfl, ha, hc, hD⟩ hS (.refl _ _) (Nat.le_refl _)
      | recover =>
        cases dl with
        | false => simp at e
        | true =>
          simp at e; subst e
          exact .inl ⟨rfl, post, hK .nilface .nilIface a.defers w μ rfl (by simp only [VR]) hD hS (.refl _ _) (Nat.le_refl _)⟩
end
end Go.Ax
end

section
namespace Go.Ax
section
variable {P : Program} {w0 : World}
theorem range_drop {n j : Nat} (h : j < n) : (List.range n).drop j = j :: (List.range n).drop (j + 1) := by
  rw [List.drop_eq_getElem_cons (by simpa using h)]
  simp
theorem drop_cons {α : Type} {l r : List α} {x : α} {j : Nat} (h : x :: r = l.drop j) : l[j]? = some x ∧ r = l.drop (j + 1) ∧ j < l.length := by
  have h0 : l[j]? = some x := by
    have := congrArg (·[0]?) h
    simp at this; exact this.symm
  refine ⟨h0, ?_, (List.getElem?_eq_some_iff.1 h0).1⟩
  have := congrArg (List.drop 1) h
  simpa using this
def Ends (w0 : World) (μ : Mu) (s s' : AF) (K : Act → World → Prop) : Prop :=
  ∀ μ' a' w', AFR w0 μ' s' a' w' → Grows s.h.n μ μ' → s.h.n ≤ s'.h.n → K a' w'
theorem afr_put {μ μ' : Mu} {s s' : AF} {a : Act} {w w' : World} {o : Oper} {v : AV} {c : Value} {defers' : List Deferred} (r : AFR w0 μ s a w) (hg : Grows s.h.n μ μ') (hT : s'.T = s.T.put o.dst v) (hv : VR μ' v c)
    (hD : DRs μ' s'.D defers') (hS : Sim w0 μ' s'.h w') : AFR w0 μ' s' ({ a with defers := defers' }.put o.dst c) w' := by
  refine ⟨?_, ?_, hS⟩
  · rw [hT]
    have := (r.T.mono hg.1).put (d := o.dst) hv
    cases hd : o.dst with
    | none => rw [hd] at this; exact this
    | some d => rw [hd] at this; exact this
  · cases hd : o.dst with
    | none => exact hD
    | some d => exact hD
theorem Ends.next1 {μ : Mu} {s s' s'' : AF} {a : Act} {w : World} {o : Oper} {K : Act → World → Prop} (r : AFR w0 μ s a w)
    (h : ∀ μ' a' w', AFR w0 μ' s' a' w' → Grows s.h.n μ μ' → s.h.n ≤ s'.h.n → K a' w') : Next1 w0 μ s s' o a K := by
  intro v c defers' w' μ' hT hv hD hS hg hn
  exact h μ' _ w' (afr_put r hg hT hv hD hS) hg hn
theorem aops_sound {ops : Array Oper} {dl : Bool} : ∀ (f : Nat), (∀ m, m < f → BodyOk P w0 m) → ∀ (l : List Oper) (s s' : AF), aops P f dl ops l s = some s' →
    ∀ (j : Nat) (μ : Mu) (a : Act) (w : World), l = ops.toList.drop j → AFR w0 μ s a w →
      (dl = false → ∀ Q : Exit → Act → World → Prop, Ends w0 μ s s' (Q .normal) → wpOps P ops Q ((List.range ops.size).drop j) a w) ∧
      (dl = true → ∀ (cs : List Frame), recoverD cs = none → ∀ Q : Exit → Act → List Frame → World → Prop, Ends w0 μ s s' (fun a' w' => Q .normal a' cs w') → wpOpsS P ops Q ((List.range ops.size).drop j) a cs w)
  | 0, _, _, _, _, e => by simp [aops] at e
  | f + 1, hB, [], s, s', e => by
    intro j μ a w hl r
    simp [aops] at e; subst e
    have hj : ops.size ≤ j := by
      have := congrArg List.length hl
      simp at this; omega
    have hnil : (List.range ops.size).drop j = [] := by apply List.drop_eq_nil_of_le; simpa using hj
    rw [hnil]
    exact ⟨fun _ Q hQ => hQ μ a w r (.refl _ _) (Nat.le_refl _), fun _ cs _ Q hQ => hQ μ a w r (.refl _ _) (Nat.le_refl _)⟩
  | f + 1, hB, o :: rest, s, s', e => by
    intro j μ a w hl r
    obtain ⟨hj, hr, hlt⟩ := drop_cons hl
    rw [Array.getElem?_toList] at hj
    rw [range_drop (by simpa using hlt)]
    simp only [aops] at e
    cases h1 : aopw P f dl ops o s with
    | none => simp [h1] at e
    | some s1 =>
      simp only [h1] at e
      have ih := aops_sound f (fun m hm => hB m (by omega)) rest s1 s' e (j + 1)
      cases f with
      | zero => simp [aopw] at h1
      | succ f =>
        simp only [aopw] at h1
        cases hw : wantedA ops s.T o with
        | none => simp [hw] at h1
        | some b =>
          have hwant := wanted_of (μ := μ) (tmps := a.tmps) (fun _ _ d _ _ => ⟨fun v hv => r.T.val d v hv, fun hd => r.T.dom d hd⟩) hw
          cases b with
          | true =>
            simp only [hw] at h1
            have hk : ∀ x ∈ o.op.operands.toList, Known μ s.T a.eval x := fun x _ => known_of r.T x
            refine ⟨fun hdl Q hQ => ?_, fun hdl cs hcs Q hQ => ?_⟩
            · have next : Next1 w0 μ s s1 o a (wpOps P ops Q ((List.range ops.size).drop (j + 1))) := by
                refine Ends.next1 (s'' := s') r fun μ' a' w' r' hg hn => ?_
                exact (ih μ' a' w' hr r').1 hdl Q fun μ'' a'' w'' r'' hg' hn' => hQ μ'' a'' w'' r'' (hg.trans hg' hn) (Nat.le_trans hn hn')
              have := aop1_sound (fun m hm => hB m (by omega)) h1 hk r.D r.h next Q
              simp only [wpOps, hj, hwant, if_true]
              rcases this with ⟨hh, _⟩ | ⟨_, h2⟩
              · rw [hdl] at hh; cases hh
              · exact .inl h2
            · have next : Next1 w0 μ s s1 o a (fun a' w' => wpOpsS P ops Q ((List.range ops.size).drop (j + 1)) a' cs w') := by
                refine Ends.next1 (s'' := s') r fun μ' a' w' r' hg hn => ?_
                exact (ih μ' a' w' hr r').2 hdl cs hcs Q fun μ'' a'' w'' r'' hg' hn' => hQ μ'' a'' w'' r'' (hg.trans hg' hn) (Nat.le_trans hn hn')
              have := aop1_sound (fun m hm => hB m (by omega)) h1 hk r.D r.h next (fun e a' w' => Q e a' cs w')
              simp only [wpOpsS, hj, hwant, if_true]
              rcases this with ⟨_, hrun, h2⟩ | ⟨hne, h2⟩
              · rw [hrun]; simp only [hcs]; exact h2
              · unfold Oper.wp at h2
                split
                · rename_i w' hh; exact absurd hh (hne w')
                · exact h2
          | false =>
            simp [hw] at h1; subst h1
            have r1 : AFR w0 μ ⟨s.T.put o.dst undefA, s.D, s.h⟩ (a.put o.dst undef) w := by
              have := afr_put (s' := ⟨s.T.put o.dst undefA, s.D, s.h⟩) (o := o) (v := undefA) (c := undef) (defers' := a.defers) r (.refl _ _) rfl (by simp only [VR, undefA]; exact ⟨#[], rfl, .nil⟩) r.D r.h
              exact this
            refine ⟨fun hdl Q hQ => ?_, fun hdl cs hcs Q hQ => ?_⟩
            · simp only [wpOps, hj, hwant, Bool.false_eq_true, if_false]
              exact (ih μ _ w hr r1).1 hdl Q hQ
            · simp only [wpOpsS, hj, hwant, Bool.false_eq_true, if_false]
              exact (ih μ _ w hr r1).2 hdl cs hcs Q hQ
end
end Go.Ax
end

section
namespace Go.Ax

mutual
theorem AV.same_eq : ∀ (a b : AV), a.same b = true → a = b
  | .bool x, b, h => by cases b <;> simp [AV.same] at h; rw [h]
  | .int k n, b, h => by cases b <;> simp [AV.same] at h; rw [h.1, h.2]
  | .str s, b, h => by cases b <;> simp only [AV.same, Bool.false_eq_true] at h; rw [bytes_eq h]
  | .nilptr, b, h => by cases b <;> simp [AV.same] at h; rfl
  | .ptr r o, b, h => by cases b <;> simp [AV.same] at h; rw [h.1, h.2]
  | .nilslice, b, h => by cases b <;> simp [AV.same] at h; rfl
  | .slice r o l c, b, h => by cases b <;> simp [AV.same] at h; obtain ⟨⟨⟨h1, h2⟩, h3⟩, h4⟩ := h; rw [h1, h2, h3, h4]
  | .nilmap, b, h => by cases b <;> simp [AV.same] at h; rfl
  | .map r, b, h => by cases b <;> simp [AV.same] at h; rw [h]
  | .nilfunc, b, h => by cases b <;> simp [AV.same] at h; rfl
  | .func fn f c, b, h => by cases b <;> simp [AV.same] at h; obtain ⟨⟨h1, h2⟩, h3⟩ := h; rw [h1, AV.sames_eq _ _ h2, AV.sames_eq _ _ h3]
  | .nilface, b, h => by cases b <;> simp [AV.same] at h; rfl
  | .iface t v, b, h => by cases b <;> simp [AV.same] at h; rw [h.1, AV.same_eq _ _ h.2]
  | .agg l, b, h => by cases b <;> simp [AV.same] at h; rw [AV.sames_eq _ _ h]
  | .tup l, b, h => by cases b <;> simp [AV.same] at h; rw [AV.sames_eq _ _ h]
theorem AV.sames_eq : ∀ (l m : List AV), AV.sames l m = true → l = m
  | [], m, h => by cases m <;> simp [AV.sames] at h; rfl
  | a :: l, m, h => by cases m <;> simp [AV.sames] at h; rw [AV.same_eq _ _ h.1, AV.sames_eq _ _ h.2]
end

theorem samePairs_eq : ∀ (l m : List (AV × AV)), samePairs l m = true → l = m
  | [], m, h => by cases m <;> simp [samePairs] at h; rfl
  | a :: l, m, h => by
    cases m <;> simp [samePairs] at h
    rename_i b m
    obtain ⟨⟨h1, h2⟩, h3⟩ := h
    rw [samePairs_eq _ _ h3, show a = b from Prod.ext (AV.same_eq _ _ h1) (AV.same_eq _ _ h2)]
theorem Row.same_eq {a b : Row} (h : a.same b = true) : a = b := by
  cases a <;> cases b <;> simp [Row.same] at h
  · obtain ⟨⟨⟨⟨h1, h2⟩, h3⟩, h4⟩, h5⟩ := h; rw [h1, h2, h3, h4, AV.sames_eq _ _ h5]
  · rw [samePairs_eq _ _ h]
  · rfl
  · rfl
theorem Tr.same_eq {α : Type} {eq : α → α → Bool} (he : ∀ a b, eq a b = true → a = b) : ∀ (s t : Tr α), Tr.same eq s t = true → s = t
  | .e, t, h => by cases t <;> simp [Tr.same] at h; rfl
  | .n v l r, t, h => by
    cases t <;> simp [Tr.same] at h
    obtain ⟨⟨h1, h2⟩, h3⟩ := h
    rw [he _ _ h1, Tr.same_eq he _ _ h2, Tr.same_eq he _ _ h3]
theorem sameT_eq (a b : Option AV) (h : sameT a b = true) : a = b := by
  cases a <;> cases b <;> simp [sameT] at h
  · rfl
  · rw [AV.same_eq _ _ h]
theorem sameD_eq : ∀ (l m : List ADef), sameD l m = true → l = m
  | [], m, h => by cases m <;> simp [sameD] at h; rfl
  | a :: l, m, h => by
    cases m <;> simp [sameD] at h
    rename_i b m
    obtain ⟨⟨⟨h1, h2⟩, h3⟩, h4⟩ := h
    rw [sameD_eq _ _ h4]
    cases a; cases b
    simp only at h1 h2 h3
    rw [h1, AV.sames_eq _ _ h2, AV.sames_eq _ _ h3]
theorem AF.same_eq {a b : AF} (h : a.same b = true) : a = b := by
  unfold AF.same at h
  simp only [Bool.and_eq_true] at h
  obtain ⟨⟨⟨h1, h2⟩, h3⟩, h4⟩ := h
  obtain ⟨T, D, H⟩ := a
  obtain ⟨T', D', H'⟩ := b
  obtain ⟨t, n⟩ := H
  obtain ⟨t', n'⟩ := H'
  have e1 := Tr.same_eq sameT_eq _ _ h1
  have e2 := sameD_eq _ _ h2
  have e3 : n = n' := by simpa using h3
  have e4 := Tr.same_eq (fun _ _ => Row.same_eq) _ _ h4
  simp only at e1 e2 e4
  rw [e1, e2, e3, e4]
section
variable {P : Program} {w0 : World} {ops : Array Oper} {b : Array Nat}
theorem testBit_or_pow (x i j : Nat) : (x ||| 2 ^ i).testBit j = (x.testBit j || decide (i = j)) := by
  rw [Nat.testBit_or, Nat.testBit_two_pow]
theorem ahead_bit (j : Nat) : ∀ (es : List Edge) (s : Nat), (es.foldl (fun s e => if Region.binds .any e then s ||| 2 ^ e.on ||| b.getD e.on 0 else s) s).testBit j = true →
    s.testBit j = true ∨ ∃ e ∈ es, Region.binds .any e = true ∧ (e.on = j ∨ (b.getD e.on 0).testBit j = true)
  | [], s, h => .inl h
  | e :: es, s, h => by
    rw [List.foldl_cons] at h
    rcases ahead_bit j es _ h with h | ⟨x, hx, hb, hj⟩
    · split at h
      · rename_i hb
        rw [Nat.testBit_or, testBit_or_pow] at h
        simp only [Bool.or_eq_true, decide_eq_true_eq] at h
        rcases h with (h | h) | h
        · exact .inl h
        · exact .inr ⟨e, by simp, hb, .inl h⟩
        · exact .inr ⟨e, by simp, hb, .inr h⟩
      · exact .inl h
    · exact .inr ⟨x, by simp [hx], hb, hj⟩
theorem fits_of (h : drawFits ops b = true) {j : Nat} (hj : j < ops.size) : ∃ oj, ops[j]? = some oj ∧ (∀ e ∈ oj.after, Region.binds .any e = true → e.on < j) ∧
    (∀ i, (b.getD j 0).testBit i = true → ∃ e ∈ oj.after, Region.binds .any e = true ∧ (e.on = i ∨ (b.getD e.on 0).testBit i = true)) ∧
    (∀ i oi d, ops[i]? = some oi → oi.dst = some d → (i = j → d ∉ namesOf ops oj) ∧ (i ≠ j → oj.dst ≠ some d ∧ (d ∈ namesOf ops oj → (b.getD j 0).testBit i = true))) := by
  unfold drawFits at h
  rw [List.all_eq_true] at h
  have := h j (by simpa using hj)
  cases ho : ops[j]? with
  | none => simp [ho] at this
  | some oj =>
    simp only [ho, Bool.and_eq_true] at this
    obtain ⟨⟨h1, h2⟩, h3⟩ := this
    refine ⟨oj, rfl, ?_, ?_, ?_⟩
    · intro e he hb
      rw [List.all_eq_true] at h1
      have := h1 e (by simpa using he)
      simpa [hb] using this
    · intro i hi
      rw [show b.getD j 0 = aheadA b oj.after.toList from by simpa using h2] at hi
      rcases ahead_bit i oj.after.toList 0 hi with h | ⟨e, he, hb, hj⟩
      · simp at h
      · exact ⟨e, by simpa using he, hb, hj⟩
    · intro i oi d hoi hd
      rw [List.all_eq_true] at h3
      have hi : i < ops.size := (Array.getElem?_eq_some_iff.1 hoi).1
      have := h3 i (by simpa using hi)
      simp only [hoi, Option.bind_some, hd] at this
      refine ⟨fun hij => ?_, fun hij => ?_⟩
      · rw [if_pos hij] at this; simpa using this
      · rw [if_neg hij] at this
        simp only [Bool.and_eq_true, Bool.or_eq_true, bne_iff_ne, ne_eq] at this
        refine ⟨this.1, fun hm => ?_⟩
        rcases this.2 with h | h
        · simp [hm] at h
        · exact h
def Closed (ops : Array Oper) (listed : Array Bool) : Prop := ∀ j o, ops[j]? = some o → listed.getD j false = true → ∀ e ∈ o.after, Region.binds .any e = true → listed.getD e.on false = true
theorem closed_bits (h : drawFits ops b = true) {listed : Array Bool} (hc : Closed ops listed) : ∀ (j : Nat), j < ops.size → (∀ o, ops[j]? = some o → ∀ e ∈ o.after, Region.binds .any e = true → listed.getD e.on false = true) →
    ∀ i, (b.getD j 0).testBit i = true → listed.getD i false = true := by
  intro j
  induction j using Nat.strongRecOn with
  | _ j ih =>
    intro hj hedges i hi
    obtain ⟨oj, hoj, hlt, hbits, _⟩ := fits_of h hj
    obtain ⟨e, he, hb, hcase⟩ := hbits i hi
    have hl := hedges oj hoj e he hb
    have hej := hlt e he hb
    rcases hcase with rfl | hcase
    · exact hl
    · exact ih e.on hej (by omega) (fun o ho e' he' hb' => hc e.on o ho hl e' he' hb') i hcase
end
end Go.Ax
end

section
namespace Go.Ax
section
variable {P : Program} {w0 : World} {ops : Array Oper} {b : Array Nat}
theorem lay_not_calm {op : Op} (h : isLay op = true) : isCalm op = false := by
  cases op <;> first | rfl | (cases h; done) | skip
  all_goals simp_all [isLay, isCalm]
theorem rowOf_mk {T : AT} {op : Op} {row : Row} {mk : Nat → AV} (e : layA P T op = some (row, mk)) (r : Nat) : rowOf (mk r) = some r := by
  unfold layA at e
  split at e
  · simp at e; obtain ⟨z, _, _, rfl⟩ := e; rfl
  · simp at e; obtain ⟨z, _, _, rfl⟩ := e; rfl
  · split at e
    · split at e
      · split at e
        · cases e
        · split at e
          · split at e
            · simp at e; obtain ⟨z, _, _, rfl⟩ := e; rfl
            · cases e
          · cases e
      · cases e
    · cases e
  · simp at e; rw [← e.2]; rfl
  · split at e
    · split at e
      · split at e
        · cases e
        · split at e
          · split at e
            · simp at e; rw [← e.2]; rfl
            · cases e
          · cases e
      · cases e
    · cases e
  · cases e
theorem aopw_quiet {f : Nat} {o : Oper} {s s1 : AF} (hq : (isCalm o.op || isLay o.op) = true) (e : aopw P f false ops o s = some s1) :
    ∃ v, s1.T = s.T.put o.dst v ∧ s1.D = s.D ∧ s.h.n ≤ s1.h.n ∧ (∀ j, j < s.h.n → s1.h.row j = s.h.row j) ∧ (∀ r, isLay o.op = true → rowOf v = some r → s.h.n ≤ r ∧ r < s1.h.n) := by
  cases f with
  | zero => simp [aopw] at e
  | succ f =>
    simp only [aopw] at e
    cases hw : wantedA ops s.T o with
    | none => simp [hw] at e
    | some wb =>
      cases wb with
      | false =>
        simp [hw] at e; subst e
        exact ⟨undefA, rfl, rfl, Nat.le_refl _, fun _ _ => rfl, fun r _ hr => by cases hr⟩
      | true =>
        simp only [hw] at e
        cases f with
        | zero => simp [aop1] at e
        | succ f =>
          simp only [aop1] at e
          by_cases hc : isCalm o.op = true
          · cases hv : calmA P s.T s.h o.op with
            | none => simp [opA, hc, hv] at e
            | some v =>
              simp [opA, hc, hv] at e; subst e
              refine ⟨v, rfl, rfl, Nat.le_refl _, fun _ _ => rfl, fun r hl _ => ?_⟩
              rw [lay_not_calm hl] at hc; cases hc
          · have hl : isLay o.op = true := by simpa [hc] using hq
            cases hv : layA P s.T o.op with
            | none => simp [opA, hc, hl, hv] at e
            | some x =>
              obtain ⟨row, mk⟩ := x
              cases hn : s.h.new row with
              | none => simp [opA, hc, hl, hv, hn] at e
              | some h' =>
                simp [opA, hc, hl, hv, hn] at e; subst e
                obtain ⟨n1, n2, n3, n4⟩ := AH.row_new hn
                refine ⟨mk s.h.n, rfl, rfl, by show s.h.n ≤ h'.n; omega, fun j hj => n4 j (by omega), fun r _ hr => ?_⟩
                rw [rowOf_mk hv] at hr
                cases hr
                exact ⟨Nat.le_refl _, by show s.h.n < h'.n; omega⟩
structure Clo (ops : Array Oper) (done : Nat) (s : AF) (done2 : Nat) (s2 : AF) : Prop where
  mono : ∀ i, done.testBit i = true → done2.testBit i = true
  kind : ∀ i, done2.testBit i = true → done.testBit i = false → ∃ o, ops[i]? = some o ∧ (isCalm o.op || isLay o.op) = true
  D : s2.D = s.D
  len : s.h.n ≤ s2.h.n
  rows : ∀ j, j < s.h.n → s2.h.row j = s.h.row j
  tmp : ∀ t, (∀ i o, ops[i]? = some o → o.dst = some t → done2.testBit i = true → done.testBit i = true) → s2.T.val t = s.T.val t
  dom : ∀ t, (s2.T.get t).isSome = (s.T.get t).isSome
  laid : ∀ i o t v r, done2.testBit i = true → done.testBit i = false → ops[i]? = some o → isLay o.op = true → o.dst = some t → s2.T.val t = some v → rowOf v = some r → s.h.n ≤ r ∧ r < s2.h.n
  apart : ∀ i o t v r i' o' t' v' r', done2.testBit i = true → done.testBit i = false → ops[i]? = some o → isLay o.op = true → o.dst = some t → s2.T.val t = some v → rowOf v = some r →
    done2.testBit i' = true → done.testBit i' = false → ops[i']? = some o' → isLay o'.op = true → o'.dst = some t' → s2.T.val t' = some v' → rowOf v' = some r' → i ≠ i' → r ≠ r'
theorem Clo.refl (done : Nat) (s : AF) : Clo ops done s done s :=
  ⟨fun _ h => h, (fun _ h h' => by rw [h] at h'; cases h'), rfl, Nat.le_refl _, fun _ _ => rfl, fun _ _ => rfl, fun _ => rfl, (fun _ _ _ _ _ h h' => by rw [h] at h'; cases h'), (fun _ _ _ _ _ _ _ _ _ _ h h' => by rw [h] at h'; cases h')⟩
theorem put_isSome (T : AT) (d : Option Tmp) (v : AV) (t : Nat) : ((T.put d v).get t).isSome = (T.get t).isSome := by
  cases d with
  | none => rfl
  | some d => exact get_set_isSome _ _ _ _
theorem Clo.step {f : Nat} {done done1 : Nat} {s s1 s2 : AF} {i : Nat} {o : Oper} (hf : drawFits ops b = true) (c : Clo ops done s done1 s1) (ho : ops[i]? = some o) (hq : (isCalm o.op || isLay o.op) = true)
    (hnd : done1.testBit i = false) (e : aopw P f false ops o s1 = some s2) : Clo ops done s (done1 ||| 2 ^ i) s2 := by
  obtain ⟨v, hT, hD, hn, hr, hl⟩ := aopw_quiet hq e
  have bit : ∀ j, (done1 ||| 2 ^ i).testBit j = true → j = i ∨ done1.testBit j = true := by
    intro j hj
    rw [testBit_or_pow, Bool.or_eq_true, decide_eq_true_eq] at hj
    rcases hj with h | h
    · exact .inr h
    · exact .inl h.symm
  have hdi : done.testBit i = false := by
    cases h : done.testBit i with
    | false => rfl
    | true => rw [c.mono i h] at hnd; cases hnd
  have uniq : ∀ j oj t, ops[j]? = some oj → oj.dst = some t → j ≠ i → o.dst ≠ some t := by
    intro j oj t hoj ht hji
    obtain ⟨oi, hoi, _, _, hx⟩ := fits_of hf (Array.getElem?_eq_some_iff.1 ho).1
    rw [ho] at hoi; cases hoi
    exact ((hx j oj t hoj ht).2 hji).1
  have keep : ∀ j oj t, ops[j]? = some oj → oj.dst = some t → j ≠ i → s2.T.val t = s1.T.val t := fun j oj t hoj ht hji => by
    rw [hT]; exact AT.val_put_ne (uniq j oj t hoj ht hji)
  have own : ∀ t u, o.dst = some t → s2.T.val t = some u → u = v := fun t u ht hu => by
    rw [hT, ht] at hu; exact AT.val_put_same hu
  refine ⟨fun j hj => by rw [testBit_or_pow, c.mono j hj]; rfl, ?_, hD.trans c.D, Nat.le_trans c.len hn, fun j hj => (hr j (Nat.lt_of_lt_of_le hj c.len)).trans (c.rows j hj), ?_, fun t => by rw [hT, put_isSome, c.dom], ?_, ?_⟩
  · intro j hj hd
    rcases bit j hj with rfl | hj
    · exact ⟨o, ho, hq⟩
    · exact c.kind j hj hd
  · intro t ht
    have h1 : o.dst ≠ some t := by
      intro hd
      have := ht i o ho hd (by rw [testBit_or_pow]; simp)
      rw [hdi] at this; cases this
    rw [hT, AT.val_put_ne h1]
    exact c.tmp t fun j oj hoj hd hj => ht j oj hoj hd (by rw [testBit_or_pow, hj]; rfl)
  · intro j oj t u r hj hd hoj hlj ht hu hrow
    by_cases hji : j = i
    · subst hji; rw [ho] at hoj; cases hoj
      have := own t u ht hu; subst this
      have := hl r hlj hrow
      exact ⟨Nat.le_trans c.len this.1, this.2⟩
    · rcases bit j hj with h | hj
      · exact absurd h hji
      · rw [keep j oj t hoj ht hji] at hu
        have := c.laid j oj t u r hj hd hoj hlj ht hu hrow
        exact ⟨this.1, Nat.lt_of_lt_of_le this.2 hn⟩
  · intro j oj t u r j' oj' t' u' r' hj hd hoj hlj ht hu hrow hj' hd' hoj' hlj' ht' hu' hrow' hne
    by_cases hji : j = i
    · subst hji; rw [ho] at hoj; cases hoj
      have := own t u ht hu; subst this
      have h1 := hl r hlj hrow
      have hj'i : j' ≠ j := fun h => hne h.symm
      rcases bit j' hj' with h | hj'
      · exact absurd h hj'i
      · rw [keep j' oj' t' hoj' ht' hj'i] at hu'
        have h2 := c.laid j' oj' t' u' r' hj' hd' hoj' hlj' ht' hu' hrow'
        omega
    · rcases bit j hj with h | hj
      · exact absurd h hji
      · rw [keep j oj t hoj ht hji] at hu
        have h1 := c.laid j oj t u r hj hd hoj hlj ht hu hrow
        by_cases hj'i : j' = i
        · subst hj'i; rw [ho] at hoj'; cases hoj'
          have := own t' u' ht' hu'; subst this
          have h2 := hl r' hlj' hrow'
          omega
        · rcases bit j' hj' with h | hj'
          · exact absurd h hj'i
          · rw [keep j' oj' t' hoj' ht' hj'i] at hu'
            exact c.apart j oj t u r j' oj' t' u' r' hj hd hoj hlj ht hu hrow hj' hd' hoj' hlj' ht' hu' hrow' hne
theorem aclose_sound (hf : drawFits ops b = true) : ∀ (f : Nat) (l : List Nat) (done done1 done2 : Nat) (s s1 s2 : AF), Clo ops done s done1 s1 → aclose P f ops b l done1 s1 = some (done2, s2) → Clo ops done s done2 s2
  | 0, _, _, _, _, _, _, _, _, e => by simp [aclose] at e
  | f + 1, [], _, _, _, _, _, _, c, e => by simp [aclose] at e; obtain ⟨rfl, rfl⟩ := e; exact c
  | f + 1, i :: rest, done, done1, done2, s, s1, s2, c, e => by
    simp only [aclose] at e
    cases ho : ops[i]? with
    | none => simp [ho] at e
    | some o =>
      simp only [ho] at e
      split at e
      · rename_i hcond
        simp only [Bool.and_eq_true, Bool.not_eq_true'] at hcond
        cases hw : aopw P f false ops o s1 with
        | none => simp [hw] at e
        | some s3 =>
          simp only [hw] at e
          exact aclose_sound hf f rest done _ done2 s s3 s2 (c.step hf ho hcond.1.1 hcond.1.2 hw) e
      · exact aclose_sound hf f rest done done1 done2 s s1 s2 c e
end
end Go.Ax
end

section
namespace Go.Ax
section
variable {P : Program} {w0 : World} {ops : Array Oper} {b : Array Nat}
theorem Sim.ext {μ : Mu} {h h' : AH} {w : World} (s : Sim w0 μ h w) (hn : h.n ≤ h'.n) (hr : ∀ j, j < h.n → h'.row j = h.row j) : Sim w0 μ h' w := by
  refine ⟨fun r p hp => ?_, fun r p x hp hx => ?_, fun r1 r2 p1 p2 x1 x2 hlt e1 e2 f1 f2 l1 l2 hb => ?_, s.below⟩
  · have := s.dom r p hp; exact ⟨by omega, this.2⟩
  · rw [hr r (s.dom r p hp).1] at hx; exact s.rows r p x hp hx
  · rw [hr r1 (s.dom r1 p1 e1).1] at f1; rw [hr r2 (s.dom r2 p2 e2).1] at f2
    exact s.sep r1 r2 p1 p2 x1 x2 hlt e1 e2 f1 f2 l1 l2 hb
structure Inv (P : Program) (w0 : World) (ops : Array Oper) (n0 : Nat) (done : Nat) (s : AF) (listed : Array Bool) (μ : Mu) (a : Act) (w : World) : Prop where
  sim : Sim w0 μ s.h w
  D : DRs μ s.D a.defers
  sub : ∀ i, listed.getD i false = true → done.testBit i = true
  kind : ∀ i, done.testBit i = true → listed.getD i false = false → ∃ o, ops[i]? = some o ∧ (isCalm o.op || isLay o.op) = true
  tmp : ∀ t v, s.T.val t = some v → (∀ i o, ops[i]? = some o → o.dst = some t → listed.getD i false = true) → VR μ v (a.tmps.getD t undef)
  dom : ∀ t, (s.T.get t).isSome = true → t < a.tmps.size
  laid : ∀ i o t v r, done.testBit i = true → listed.getD i false = false → ops[i]? = some o → isLay o.op = true → o.dst = some t → s.T.val t = some v → rowOf v = some r → μ r = none ∧ n0 ≤ r ∧ r < s.h.n
  apart : ∀ i o t v r i' o' t' v' r', done.testBit i = true → listed.getD i false = false → ops[i]? = some o → isLay o.op = true → o.dst = some t → s.T.val t = some v → rowOf v = some r →
    done.testBit i' = true → listed.getD i' false = false → ops[i']? = some o' → isLay o'.op = true → o'.dst = some t' → s.T.val t' = some v' → rowOf v' = some r' → i ≠ i' → r ≠ r'
  late : ∀ i o, done.testBit i = true → listed.getD i false = false → ops[i]? = some o → lateOk P ops s.T s.h o = true
  closed : Closed ops listed
  size : listed.size = ops.size
  len : n0 ≤ s.h.n
theorem getD_false_true {listed : Array Bool} {i : Nat} (h : i < listed.size) : listed.getD i true = listed.getD i false := by
  simp [Array.getD, h]
theorem set_true {listed : Array Bool} {i j : Nat} (h : (listed.setIfInBounds i true).getD j false = true) : j = i ∨ listed.getD j false = true := by
  by_cases hij : i = j
  · exact .inl hij.symm
  · rw [getD_set_ne false hij] at h; exact .inr h
theorem set_false {listed : Array Bool} {i j : Nat} (hi : i < listed.size) (h : (listed.setIfInBounds i true).getD j false = false) : j ≠ i ∧ listed.getD j false = false := by
  by_cases hij : i = j
  · subst hij; simp [Array.getD, hi] at h
  · rw [getD_set_ne false hij] at h; exact ⟨fun hh => hij hh.symm, h⟩
theorem set_self {listed : Array Bool} {i : Nat} (hi : i < listed.size) : (listed.setIfInBounds i true).getD i false = true := by
  simp [Array.getD, hi]
theorem closed_set {listed : Array Bool} {i : Nat} {o : Oper} (hc : Closed ops listed) (ho : ops[i]? = some o) (he : ∀ e ∈ o.after, Region.binds .any e = true → listed.getD e.on false = true) :
    Closed ops (listed.setIfInBounds i true) := by
  intro j oj hoj hj e hee hb
  rcases set_true hj with rfl | hj
  · rw [ho] at hoj; cases hoj; exact getD_set_true (he e hee hb)
  · exact getD_set_true (hc j oj hoj hj e hee hb)
theorem Inv.known {n0 done : Nat} {s : AF} {listed : Array Bool} {μ : Mu} {a : Act} {w : World} (v : Inv P w0 ops n0 done s listed μ a w) (hf : drawFits ops b = true) {i : Nat} {o : Oper} (ho : ops[i]? = some o)
    (he : ∀ e ∈ o.after, Region.binds .any e = true → listed.getD e.on false = true) :
    (∀ t ∈ namesOf ops o, ∀ u, s.T.val t = some u → VR μ u (a.tmps.getD t undef)) ∧ (∀ k, (b.getD i 0).testBit k = true → listed.getD k false = true) := by
  have hi : i < ops.size := (Array.getElem?_eq_some_iff.1 ho).1
  have hbits := closed_bits hf v.closed i hi (fun o' ho' => by rw [ho] at ho'; cases ho'; exact he)
  obtain ⟨oi, hoi, _, _, hx⟩ := fits_of hf hi
  rw [ho] at hoi; cases hoi
  refine ⟨fun t ht u hu => v.tmp t u hu fun j oj hoj hd => ?_, hbits⟩
  by_cases hji : j = i
  · exact absurd ht ((hx j oj t hoj hd).1 hji)
  · exact hbits j (((hx j oj t hoj hd).2 hji).2 ht)
theorem mem_tmpsOf {l : List Operand} {t : Tmp} (h : .tmp t ∈ l) : t ∈ tmpsOf l := by
  induction l with
  | nil => cases h
  | cons x l ih =>
    rcases List.mem_cons.1 h with rfl | h'
    · simp [tmpsOf]
    · cases x <;> simp [tmpsOf, ih h']
theorem known_names {T : AT} {μ : Mu} {a : Act} {o : Oper} (h : ∀ t ∈ namesOf ops o, ∀ u, T.val t = some u → VR μ u (a.tmps.getD t undef)) : ∀ x ∈ o.op.operands.toList, Known μ T a.eval x := by
  intro x hx v e
  cases x with
  | tmp t => exact h t (by unfold namesOf; rw [List.mem_append]; exact .inl (mem_tmpsOf hx)) v e
  | const c => exact absV_VR μ c v e
  | global g => cases e
  | func f => cases e; simp only [VR]; exact ⟨#[], #[], rfl, .nil, .nil⟩
theorem wanted_names {T : AT} {μ : Mu} {a : Act} {o : Oper} {wb : Bool} (h : ∀ t ∈ namesOf ops o, ∀ u, T.val t = some u → VR μ u (a.tmps.getD t undef)) (hd : ∀ t, (T.get t).isSome = true → t < a.tmps.size)
    (e : wantedA ops T o = some wb) : Region.wanted o (yielded ops a.tmps) = wb :=
  wanted_of (μ := μ) (fun j want d hg hj => ⟨fun v hv => h d (by unfold namesOf; rw [List.mem_append, hg]; exact .inr (by simp only; rw [hj]; simp)) v hv, hd d⟩) e
theorem getD_put_ne {a : Act} {d : Option Tmp} {c : Value} {t : Tmp} (h : d ≠ some t) : (a.put d c).tmps.getD t undef = a.tmps.getD t undef := by
  cases d with
  | none => rfl
  | some d =>
    have hne : d ≠ t := fun hh => h (by rw [hh])
    simp only [Act.put, Array.getD_eq_getD_getElem?]
    rw [Array.getElem?_setIfInBounds_ne hne]
theorem getD_put_same {a : Act} {t : Tmp} {c : Value} (h : t < a.tmps.size) : (a.put (some t) c).tmps.getD t undef = c := by
  simp [Act.put, Array.getD, h]
theorem put_size {a : Act} {d : Option Tmp} {c : Value} : (a.put d c).tmps.size = a.tmps.size := by
  cases d <;> simp [Act.put]
theorem put_defers' {a : Act} {d : Option Tmp} {c : Value} : (a.put d c).defers = a.defers := by
  cases d <;> rfl
theorem Inv.putLate {n0 done : Nat} {s : AF} {listed : Array Bool} {μ μ' : Mu} {a : Act} {w w' : World} (v : Inv P w0 ops n0 done s listed μ a w) {i : Nat} {o : Oper} {d : Tmp} {x : AV} {c : Value}
    (ho : ops[i]? = some o) (he : ∀ e ∈ o.after, Region.binds .any e = true → listed.getD e.on false = true) (hdone : done.testBit i = true) (hd : o.dst = some d) (hx : s.T.val d = some x)
    (hle : μ.le μ') (hv : VR μ' x c) (hs : Sim w0 μ' s.h w')
    (hrows : ∀ j oj t y r, j ≠ i → done.testBit j = true → listed.getD j false = false → ops[j]? = some oj → isLay oj.op = true → oj.dst = some t → s.T.val t = some y → rowOf y = some r → μ' r = none) :
    Inv P w0 ops n0 done s (listed.setIfInBounds i true) μ' (a.put (some d) c) w' := by
  have hi : i < listed.size := by rw [v.size]; exact (Array.getElem?_eq_some_iff.1 ho).1
  refine ⟨hs, by rw [put_defers']; exact v.D.mono hle, ?_, ?_, ?_, fun t ht => by rw [put_size]; exact v.dom t ht, ?_, ?_, ?_, closed_set v.closed ho he, by rw [Array.size_setIfInBounds]; exact v.size, v.len⟩
  · intro j hj
    rcases set_true hj with rfl | hj
    · exact hdone
    · exact v.sub j hj
  · intro j hj hl
    exact v.kind j hj (set_false hi hl).2
  · intro t y hy hall
    by_cases ht : t = d
    · subst ht
      rw [hx] at hy; cases hy
      have hlt : t < a.tmps.size := v.dom t (by
        unfold AT.val at hx
        cases hg : s.T.get t with
        | none => simp [hg] at hx
        | some _ => rfl)
      rw [getD_put_same hlt]; exact hv
    · rw [getD_put_ne (fun hh => ht (by cases hh; rfl))]
      refine (v.tmp t y hy fun j oj hoj hdj => ?_).mono hle
      rcases set_true (hall j oj hoj hdj) with rfl | h
      · rw [ho] at hoj; cases hoj; rw [hd] at hdj; cases hdj; exact absurd rfl ht
      · exact h
  · intro j oj t y r hj hl hoj hlj ht hy hr
    obtain ⟨hne, hl⟩ := set_false hi hl
    have := v.laid j oj t y r hj hl hoj hlj ht hy hr
    exact ⟨hrows j oj t y r hne hj hl hoj hlj ht hy hr, this.2⟩
  · intro j oj t y r j' oj' t' y' r' hj hl hoj hlj ht hy hr hj' hl' hoj' hlj' ht' hy' hr' hne
    exact v.apart j oj t y r j' oj' t' y' r' hj (set_false hi hl).2 hoj hlj ht hy hr hj' (set_false hi hl').2 hoj' hlj' ht' hy' hr' hne
  · intro j oj hj hl hoj
    exact v.late j oj hj (set_false hi hl).2 hoj
theorem Inv.putNew {n0 done done2 : Nat} {s s1 s2 : AF} {listed : Array Bool} {μ μ' : Mu} {a : Act} {w w' : World} (v : Inv P w0 ops n0 done s listed μ a w) (hf : drawFits ops b = true) {i : Nat} {o : Oper} {x : AV} {c : Value}
    {defers' : List Deferred} (ho : ops[i]? = some o) (he : ∀ e ∈ o.after, Region.binds .any e = true → listed.getD e.on false = true) (hnd : done.testBit i = false)
    (hT : s1.T = s.T.put o.dst x) (hv : VR μ' x c) (hD : DRs μ' s1.D defers') (hs : Sim w0 μ' s1.h w') (hg : Grows s.h.n μ μ') (hn : s.h.n ≤ s1.h.n)
    (hc : Clo ops (done ||| 2 ^ i) s1 done2 s2) (hlate : allLate P ops b done2 (some i) s2.T s2.h = true) :
    Inv P w0 ops n0 done2 s2 (listed.setIfInBounds i true) μ' ({ a with defers := defers' }.put o.dst c) w' := by
  have hi : i < listed.size := by rw [v.size]; exact (Array.getElem?_eq_some_iff.1 ho).1
  have hio : i < ops.size := (Array.getElem?_eq_some_iff.1 ho).1
  obtain ⟨hnames, hbits⟩ := v.known hf ho he
  have bit1 : ∀ j, (done ||| 2 ^ i).testBit j = true ↔ j = i ∨ done.testBit j = true := by
    intro j; rw [testBit_or_pow, Bool.or_eq_true, decide_eq_true_eq]
    constructor
    · rintro (h | h); exact .inr h; exact .inl h.symm
    · rintro (h | h); exact .inr h.symm; exact .inl h
  have uniq : ∀ (j : Nat) (oj : Oper) (t : Tmp) (k : Nat) (ok : Oper), ops[j]? = some oj → oj.dst = some t → ops[k]? = some ok → ok.dst = some t → j = k := by
    intro j oj t k ok hoj ht hok htk
    refine Classical.byContradiction fun hne => ?_
    obtain ⟨o', ho', _, _, hx⟩ := fits_of hf (Array.getElem?_eq_some_iff.1 hok).1
    rw [hok] at ho'; cases ho'
    exact ((hx j oj t hoj ht).2 hne).1 htk
  -- a temporary of what stands at or ahead of this operation reads as before
  have keep : ∀ (j : Nat) (oj : Oper) (t : Tmp), ops[j]? = some oj → oj.dst = some t → (done ||| 2 ^ i).testBit j = true → s2.T.val t = s1.T.val t := by
    intro j oj t hoj ht hj
    refine hc.tmp t fun k ok hok htk _ => ?_
    have := uniq j oj t k ok hoj ht hok htk
    rw [← this]; exact hj
  have keep1 : ∀ (j : Nat) (oj : Oper) (t : Tmp), ops[j]? = some oj → oj.dst = some t → j ≠ i → s1.T.val t = s.T.val t := by
    intro j oj t hoj ht hji
    rw [hT]
    exact AT.val_put_ne fun hd => hji (uniq j oj t i o hoj ht ho hd)
  refine ⟨hs.ext hc.len hc.rows, by rw [put_defers', hc.D]; exact hD, ?_, ?_, ?_, ?_, ?_, ?_, ?_, closed_set v.closed ho he, by rw [Array.size_setIfInBounds]; exact v.size, Nat.le_trans v.len (Nat.le_trans hn hc.len)⟩
  · intro j hj
    refine hc.mono j ((bit1 j).2 ?_)
    rcases set_true hj with rfl | hj
    · exact .inl rfl
    · exact .inr (v.sub j hj)
  · intro j hj hl
    obtain ⟨hne, hl⟩ := set_false hi hl
    cases hb1 : (done ||| 2 ^ i).testBit j with
    | true =>
      rcases (bit1 j).1 hb1 with h | h
      · exact absurd h hne
      · exact v.kind j h hl
    | false => exact hc.kind j hj hb1
  · intro t y hy hall
    have hy1 : s1.T.val t = some y := by
      rw [← hc.tmp t fun k ok hok htk _ => ?_]
      · exact hy
      · have := set_true (hall k ok hok htk)
        exact (bit1 k).2 (this.imp id (v.sub k))
    rw [hT] at hy1
    by_cases ht : o.dst = some t
    · have hyx : y = x := by rw [ht] at hy1; exact AT.val_put_same hy1
      subst hyx
      have hlt : t < a.tmps.size := v.dom t (by
        rw [← put_isSome s.T o.dst y t]
        unfold AT.val at hy1
        cases hg : (s.T.put o.dst y).get t with
        | none => simp [hg] at hy1
        | some _ => rfl)
      rw [ht, getD_put_same (a := { a with defers := defers' }) hlt]; exact hv
    · rw [AT.val_put_ne ht] at hy1
      rw [getD_put_ne ht]
      refine (v.tmp t y hy1 fun j oj hoj hdj => ?_).mono hg.1
      rcases set_true (hall j oj hoj hdj) with rfl | h
      · rw [ho] at hoj; cases hoj; exact absurd hdj ht
      · exact h
  · intro t ht
    rw [hc.dom, hT, put_isSome] at ht
    rw [put_size]; exact v.dom t ht
  · intro j oj t y r hj hl hoj hlj ht hy hr
    obtain ⟨hne, hl⟩ := set_false hi hl
    cases hb1 : (done ||| 2 ^ i).testBit j with
    | true =>
      have hdj : done.testBit j = true := by
        rcases (bit1 j).1 hb1 with h | h
        · exact absurd h hne
        · exact h
      rw [keep j oj t hoj ht hb1, keep1 j oj t hoj ht hne] at hy
      have := v.laid j oj t y r hdj hl hoj hlj ht hy hr
      exact ⟨by rw [hg.2 r this.2.2]; exact this.1, this.2.1, by have := hc.len; omega⟩
    | false =>
      have := hc.laid j oj t y r hj hb1 hoj hlj ht hy hr
      exact ⟨hs.none_new this.1, by have := v.len; omega, this.2⟩
  · intro j oj t y r j' oj' t' y' r' hj hl hoj hlj ht hy hr hj' hl' hoj' hlj' ht' hy' hr' hne
    obtain ⟨hne1, hl⟩ := set_false hi hl
    obtain ⟨hne2, hl'⟩ := set_false hi hl'
    have old : ∀ (k : Nat) (ok : Oper) (t : Tmp) (y : AV) (r : Nat), k ≠ i → (done ||| 2 ^ i).testBit k = true → listed.getD k false = false → ops[k]? = some ok → isLay ok.op = true → ok.dst = some t → s2.T.val t = some y → rowOf y = some r → done.testBit k = true ∧ s.T.val t = some y ∧ r < s.h.n := by
      intro k ok t y r hk hb1 hl hok hlk ht hy hr
      have hdk : done.testBit k = true := by
        rcases (bit1 k).1 hb1 with h | h
        · exact absurd h hk
        · exact h
      rw [keep k ok t hok ht hb1, keep1 k ok t hok ht hk] at hy
      exact ⟨hdk, hy, (v.laid k ok t y r hdk hl hok hlk ht hy hr).2.2⟩
    cases hb1 : (done ||| 2 ^ i).testBit j with
    | true =>
      obtain ⟨d1, y1, r1⟩ := old j oj t y r hne1 hb1 hl hoj hlj ht hy hr
      cases hb2 : (done ||| 2 ^ i).testBit j' with
      | true =>
        obtain ⟨d2, y2, r2⟩ := old j' oj' t' y' r' hne2 hb2 hl' hoj' hlj' ht' hy' hr'
        exact v.apart j oj t y r j' oj' t' y' r' d1 hl hoj hlj ht y1 hr d2 hl' hoj' hlj' ht' y2 hr' hne
      | false =>
        have := hc.laid j' oj' t' y' r' hj' hb2 hoj' hlj' ht' hy' hr'
        omega
    | false =>
      have h1 := hc.laid j oj t y r hj hb1 hoj hlj ht hy hr
      cases hb2 : (done ||| 2 ^ i).testBit j' with
      | true =>
        obtain ⟨d2, y2, r2⟩ := old j' oj' t' y' r' hne2 hb2 hl' hoj' hlj' ht' hy' hr'
        omega
      | false => exact hc.apart j oj t y r j' oj' t' y' r' hj hb1 hoj hlj ht hy hr hj' hb2 hoj' hlj' ht' hy' hr' hne
  · intro j oj hj hl hoj
    obtain ⟨hne, hl⟩ := set_false hi hl
    unfold allLate at hlate
    rw [List.all_eq_true] at hlate
    have := hlate j (by simpa using (Array.getElem?_eq_some_iff.1 hoj).1)
    simp only [hoj, hj, Bool.not_true, Bool.false_or, Bool.or_eq_true, Bool.not_eq_true'] at this
    rcases this with (h | h) | h
    · exfalso
      have hk : (isCalm oj.op || isLay oj.op) = true := by
        cases hb1 : (done ||| 2 ^ i).testBit j with
        | true =>
          rcases (bit1 j).1 hb1 with h | h'
          · exact absurd h hne
          · obtain ⟨o', ho', hq⟩ := v.kind j h' hl; rw [hoj] at ho'; cases ho'; exact hq
        | false => obtain ⟨o', ho', hq⟩ := hc.kind j hj hb1; rw [hoj] at ho'; cases ho'; exact hq
      rw [hk] at h; cases h
    · have := hbits j h
      rw [hl] at this; cases this
    · exact h
end
end Go.Ax
end

section
namespace Go.Ax
section
variable {P : Program} {w0 : World} {ops : Array Oper} {b : Array Nat}
def Node (P : Program) (ops : Array Oper) (b : Array Nat) (f : Nat) (done : Nat) (s s' : AF) : Prop :=
  (readyA ops b done = [] ∧ done = 2 ^ ops.size - 1 ∧ s = s') ∨ (readyA ops b done ≠ [] ∧ adraws P f ops b done s (readyA ops b done) = some s')
theorem adraws_mem : ∀ (f : Nat) (l : List Nat) (done : Nat) (s s' : AF), adraws P f ops b done s l = some s' → ∀ i ∈ l, ∃ f' o s1, f' < f ∧ ops[i]? = some o ∧ aopw P f' false ops o s = some s1 ∧ adraw P f' ops b (done ||| 2 ^ i) s1 (some i) = some s'
  | 0, _, _, _, _, e => by simp [adraws] at e
  | f + 1, [], _, _, _, e => by simp [adraws] at e
  | f + 1, i :: rest, done, s, s', e => by
    simp only [adraws] at e
    cases ho : ops[i]? with
    | none => simp [ho] at e
    | some o =>
      simp only [ho] at e
      cases hw : aopw P f false ops o s with
      | none => simp [hw] at e
      | some s1 =>
        simp only [hw] at e
        cases hd : adraw P f ops b (done ||| 2 ^ i) s1 (some i) with
        | none => simp [hd] at e
        | some r =>
          simp only [hd] at e
          cases rest with
          | nil =>
            simp at e; subst e
            intro k hk
            simp at hk; subst hk
            exact ⟨f, o, s1, by omega, ho, hw, hd⟩
          | cons j rest =>
            simp only at e
            cases hr : adraws P f ops b done s (j :: rest) with
            | none => simp [hr] at e
            | some r' =>
              simp only [hr] at e
              split at e
              · rename_i hs
                cases e
                have := AF.same_eq hs; subst this
                intro k hk
                rcases List.mem_cons.1 hk with rfl | hk
                · exact ⟨f, o, s1, by omega, ho, hw, hd⟩
                · obtain ⟨f', o', s2, h1, h2, h3, h4⟩ := adraws_mem f (j :: rest) done s _ hr k hk
                  exact ⟨f', o', s2, by omega, h2, h3, h4⟩
              · cases e
theorem adraw_node (hf : drawFits ops b = true) {f done : Nat} {s s' : AF} {last : Option Nat} (e : adraw P f ops b done s last = some s') :
    ∃ f' done2 s2, f' ≤ f ∧ Clo ops done s done2 s2 ∧ allLate P ops b done2 last s2.T s2.h = true ∧ Node P ops b f' done2 s2 s' := by
  cases f with
  | zero => simp [adraw] at e
  | succ f =>
    simp only [adraw] at e
    cases hc : aclose P f ops b (List.range ops.size) done s with
    | none => simp [hc] at e
    | some x =>
      obtain ⟨done2, s2⟩ := x
      simp only [hc] at e
      split at e
      · rename_i hl
        refine ⟨f, done2, s2, by omega, aclose_sound hf f _ done done done2 s s s2 (.refl _ _) hc, hl, ?_⟩
        split at e
        · rename_i hr
          split at e
          · rename_i hd; cases e; exact .inl ⟨hr, hd, rfl⟩
          · cases e
        · rename_i hr
          exact .inr ⟨hr, e⟩
      · cases e
theorem all_listed (hf : drawFits ops b = true) {listed : Array Bool} (hs : listed.size = ops.size) (hr : Region.ready .any ops listed = []) : ∀ i, i < ops.size → listed.getD i false = true := by
  intro i
  induction i using Nat.strongRecOn with
  | _ i ih =>
    intro hi
    cases h : listed.getD i false with
    | true => rfl
    | false =>
      exfalso
      obtain ⟨o, ho, hlt, _, _⟩ := fits_of hf hi
      have : i ∈ Region.ready .any ops listed := mem_ready.2 ⟨by rw [getD_false_true (by omega)]; exact h, o, ho, fun e he hb => ih e.on (hlt e he hb) (by have := hlt e he hb; omega)⟩
      rw [hr] at this; cases this
theorem and_eq_of {x y : Nat} (h : ∀ k, x.testBit k = true → y.testBit k = true) : x &&& y = x := by
  apply Nat.eq_of_testBit_eq
  intro k
  rw [Nat.testBit_and]
  cases hx : x.testBit k with
  | false => rfl
  | true => rw [h k hx]; rfl
def left (ops : Array Oper) (listed : Array Bool) : Nat := ((List.range ops.size).filter fun i => !listed.getD i false).length
theorem left_set {listed : Array Bool} {i : Nat} (hs : listed.size = ops.size) (hi : i < ops.size) (h : listed.getD i false = false) : left ops (listed.setIfInBounds i true) + 1 = left ops listed := by
  unfold left
  have key : ∀ l : List Nat, l.Nodup → i ∈ l → (l.filter fun j => !(listed.setIfInBounds i true).getD j false).length + 1 = (l.filter fun j => !listed.getD j false).length := by
    intro l
    induction l with
    | nil => intro _ h; cases h
    | cons j l ih =>
      intro hnd hm
      rw [List.nodup_cons] at hnd
      by_cases hj : j = i
      · subst hj
        have h1 : (listed.setIfInBounds j true).getD j false = true := set_self (by omega)
        rw [List.filter_cons_of_neg (by simp [h1]), List.filter_cons_of_pos (by simp [h]), List.length_cons]
        congr 2
        apply List.filter_congr
        intro k hk
        have : j ≠ k := fun hh => hnd.1 (hh ▸ hk)
        rw [getD_set_ne false this]
      · have hm' : i ∈ l := by rcases List.mem_cons.1 hm with rfl | h; exact absurd rfl hj; exact h
        have := ih hnd.2 hm'
        have e1 : (listed.setIfInBounds i true).getD j false = listed.getD j false := getD_set_ne false (fun hh => hj hh.symm)
        simp only [List.filter_cons, e1]
        split
        · simp only [List.length_cons]; omega
        · exact this
  exact key _ List.nodup_range (by simpa using hi)
theorem left_zero {listed : Array Bool} (h : left ops listed = 0) : ∀ i, i < ops.size → listed.getD i false = true := by
  intro i hi
  unfold left at h
  rw [List.length_eq_zero_iff, List.filter_eq_nil_iff] at h
  simpa using h i (by simpa using hi)
theorem draw_main (hf : drawFits ops b = true) {F n0 : Nat} {μ0 : Mu} {s' : AF} {Q : Exit → Act → World → Prop} (hB : ∀ m, m < F → BodyOk P w0 m)
    (hQ : ∀ μ' a' w', AFR w0 μ' s' a' w' → Grows n0 μ0 μ' → n0 ≤ s'.h.n → Q .normal a' w') :
    ∀ (fuel f done : Nat) (s : AF) (listed : Array Bool) (μ : Mu) (a : Act) (w : World), f ≤ F → Node P ops b f done s s' → Inv P w0 ops n0 done s listed μ a w → Grows n0 μ0 μ → left ops listed ≤ fuel → wpAny P .any ops Q fuel listed a w := by
  intro fuel
  have fin : ∀ (f done : Nat) (s : AF) (listed : Array Bool) (μ : Mu) (a : Act) (w : World), Node P ops b f done s s' → Inv P w0 ops n0 done s listed μ a w → Grows n0 μ0 μ → (∀ i, i < ops.size → listed.getD i false = true) → Q .normal a w := by
    intro f done s listed μ a w hnode v hg hall
    have hdone : ∀ i, i < ops.size → done.testBit i = true := fun i hi => v.sub i (hall i hi)
    have hr : readyA ops b done = [] := by
      unfold readyA
      rw [List.filter_eq_nil_iff]
      intro i hi
      rw [List.mem_range] at hi
      simp [hdone i hi]
    rcases hnode with ⟨_, _, rfl⟩ | ⟨hne, _⟩
    · refine hQ μ a w ⟨⟨fun t x hx => v.tmp t x hx fun i o ho _ => hall i (Array.getElem?_eq_some_iff.1 ho).1, v.dom⟩, v.D, v.sim⟩ hg v.len
    · exact absurd hr hne
  induction fuel with
  | zero =>
    intro f done s listed μ a w _ hnode v hg hle
    have hall := left_zero (ops := ops) (listed := listed) (by omega)
    refine ⟨?_, fin f done s listed μ a w hnode v hg hall⟩
    unfold Region.ready
    rw [List.filter_eq_nil_iff]
    intro i hi
    rw [List.mem_range] at hi
    have := hall i hi
    rw [getD_false_true (by rw [v.size]; exact hi)]
    simp [this]
  | succ fuel ih =>
    intro f done s listed μ a w hfF hnode v hg hle
    refine ⟨fun hr => fin f done s listed μ a w hnode v hg (all_listed hf v.size hr), fun i hi => ?_⟩
    obtain ⟨hli, o, ho, he⟩ := mem_ready.1 hi
    have hio : i < ops.size := (Array.getElem?_eq_some_iff.1 ho).1
    rw [getD_false_true (by rw [v.size]; exact hio)] at hli
    obtain ⟨hnames, hbits⟩ := v.known hf ho he
    have hleft := left_set v.size hio hli
    unfold wpOp
    rw [ho]
    simp only
    cases hdi : done.testBit i with
    | true =>
      have hlate := v.late i o hdi hli ho
      unfold lateOk at hlate
      cases hw : wantedA ops s.T o with
      | none => simp [hw] at hlate
      | some wb =>
        simp only [hw] at hlate
        have hwant := wanted_names hnames v.dom hw
        rw [hwant]
        cases hd : o.dst with
        | none => simp [hd] at hlate
        | some d =>
          simp only [hd] at hlate
          cases hx : s.T.val d with
          | none => simp [hx] at hlate
          | some x =>
            simp only [hx] at hlate
            cases wb with
            | false =>
              simp only [Bool.false_eq_true, if_false] at hlate ⊢
              have := AV.same_eq _ _ hlate; subst this
              exact ih f done s _ μ _ w hfF hnode (v.putLate ho he hdi hd hx μ.le_refl (by simp only [VR, undefA]; exact ⟨#[], rfl, .nil⟩) v.sim
                (fun j oj t y r hne hj hl hoj hlj ht hy hr => (v.laid j oj t y r hj hl hoj hlj ht hy hr).1)) hg (by omega)
            | true =>
              simp only [if_true] at hlate ⊢
              have hk := known_names (ops := ops) hnames
              by_cases hcalm : isCalm o.op = true
              · simp only [hcalm, if_true] at hlate
                cases hc : calmA P s.T s.h o.op with
                | none => simp [hc] at hlate
                | some u =>
                  simp only [hc] at hlate
                  have := AV.same_eq _ _ hlate; subst this
                  obtain ⟨c, hr, hv⟩ := calm_sound v.sim hk hc
                  left
                  unfold Oper.wp; rw [hr]
                  show wpAny P .any ops Q fuel _ (a.put o.dst c) w
                  rw [hd]
                  exact ih f done s _ μ _ w hfF hnode (v.putLate ho he hdi hd hx μ.le_refl hv v.sim
                    (fun j oj t y r hne hj hl hoj hlj ht hy hr => (v.laid j oj t y r hj hl hoj hlj ht hy hr).1)) hg (by omega)
              · simp only [hcalm, Bool.false_eq_true, if_false] at hlate
                have hlay : isLay o.op = true := by
                  obtain ⟨o', ho', hq⟩ := v.kind i hdi hli
                  rw [ho] at ho'; cases ho'
                  simpa [hcalm] using hq
                split at hlate
                · rename_i row mk r hl hrow
                  simp only [Bool.and_eq_true] at hlate
                  obtain ⟨hmk, hrw⟩ := hlate
                  have := AV.same_eq _ _ hmk
                  cases hrr : s.h.row r with
                  | none => simp [hrr] at hrw
                  | some row' =>
                    simp only [hrr] at hrw
                    have hrow' := Row.same_eq hrw; subst hrow'
                    obtain ⟨hnone, hn0, hrn⟩ := v.laid i o d x r hdi hli ho hlay hd hx hrow
                    obtain ⟨obj, c, hr, hall⟩ := lay_sound (P := P) (w := w) hk hl
                    obtain ⟨hok, hv⟩ := hall r hnone
                    rw [this] at hv
                    left
                    unfold Oper.wp; rw [hr]
                    show wpAny P .any ops Q fuel _ (a.put o.dst c) (w.alloc obj)
                    rw [hd]
                    have hs := v.sim.place (h' := s.h) (p := ⟨w.heap.size, 0, 0⟩) (Nat.le_refl _) hrn hrr (fun _ _ => rfl) hnone rfl hok
                    have hg' : Grows n0 μ0 (upd μ r ⟨w.heap.size, 0, 0⟩) := ⟨Mu.le_trans hg.1 (le_upd hnone), fun j hj => by rw [upd_ne (by omega)]; exact hg.2 j hj⟩
                    exact ih f done s _ _ _ _ hfF hnode (v.putLate ho he hdi hd hx (le_upd hnone) hv hs
                      (fun j oj t y r' hne hj hlj' hoj hlj ht hy hr' => by
                        have h1 := (v.laid j oj t y r' hj hlj' hoj hlj ht hy hr').1
                        have h2 := v.apart j oj t y r' i o d x r hj hlj' hoj hlj ht hy hr' hdi hli ho hlay hd hx hrow hne
                        rw [upd_ne h2]; exact h1)) hg' (by omega)
                · cases hlate
    | false =>
      have hin : i ∈ readyA ops b done := by
        unfold readyA
        rw [List.mem_filter, List.mem_range]
        refine ⟨hio, ?_⟩
        simp only [hdi, Bool.not_false, Bool.true_and, beq_iff_eq]
        exact and_eq_of fun k hk => v.sub k (hbits k hk)
      rcases hnode with ⟨hnil, _, _⟩ | ⟨_, hdraws⟩
      · rw [hnil] at hin; cases hin
      · obtain ⟨f1, o', s1, hf1, ho', hw1, hd1⟩ := adraws_mem f _ done s s' hdraws i hin
        rw [ho] at ho'; cases ho'
        obtain ⟨f2, done2, s2, hf2, hclo, hall, hnode2⟩ := adraw_node hf hd1
        cases f1 with
        | zero => simp [aopw] at hw1
        | succ f1 =>
          simp only [aopw] at hw1
          cases hw : wantedA ops s.T o with
          | none => simp [hw] at hw1
          | some wb =>
            have hwant := wanted_names hnames v.dom hw
            rw [hwant]
            cases wb with
            | false =>
              simp [hw] at hw1; subst hw1
              simp only [Bool.false_eq_true, if_false]
              have := v.putNew (s1 := ⟨s.T.put o.dst undefA, s.D, s.h⟩) (μ' := μ) (w' := w) (x := undefA) (c := undef) (defers' := a.defers) hf ho he hdi rfl (by simp only [VR, undefA]; exact ⟨#[], rfl, .nil⟩) v.D v.sim (.refl _ _) (Nat.le_refl _) hclo hall
              exact ih f2 done2 s2 _ μ _ w (by omega) hnode2 this hg (by omega)
            | true =>
              simp only [hw] at hw1
              simp only [if_true]
              have next : Next1 w0 μ s s1 o a (wpAny P .any ops Q fuel (listed.setIfInBounds i true)) := by
                intro x c defers' w' μ' hT hv hD hS hg' hn'
                have := v.putNew hf ho he hdi hT hv hD hS hg' hn' hclo hall
                exact ih f2 done2 s2 _ μ' _ w' (by omega) hnode2 this (hg.trans hg' v.len) (by omega)
              have := aop1_sound (fun m hm => hB m (by omega)) hw1 (known_names (ops := ops) hnames) v.D v.sim next Q
              rcases this with ⟨hh, _⟩ | ⟨_, h2⟩
              · cases hh
              · exact .inl h2
theorem region_draw {id F : Nat} (hm : P.follows .mixedOrders = true) (hf : drawFits ops b = true) (hB : ∀ m, m < F → BodyOk P w0 m) {μ : Mu} {s s' : AF} {a : Act} {w : World} (r : AFR w0 μ s a w)
    {f : Nat} (hfF : f ≤ F) (e : adraw P f ops b 0 s none = some s') (Q : Exit → Act → World → Prop) (hQ : Ends w0 μ s s' (Q .normal)) : (Code.region id ops true).wp P Q a w := by
  refine wp_region_any hm ?_
  obtain ⟨f2, done2, s2, hf2, hclo, hall, hnode⟩ := adraw_node hf e
  have none_listed : ∀ i, (Array.replicate ops.size false).getD i false = false := by
    intro i
    simp only [Array.getD_eq_getD_getElem?, Array.getElem?_replicate]
    split <;> rfl
  have z : ∀ i, (0 : Nat).testBit i = false := fun i => Nat.zero_testBit i
  refine draw_main (n0 := s.h.n) (μ0 := μ) hf hB (fun μ' a' w' r' hg hn => hQ μ' a' w' r' hg hn) ops.size f2 done2 s2 _ μ a _ (by omega) hnode ?_ (.refl _ _) ?_
  · refine ⟨(r.h.drew).ext hclo.len hclo.rows, by rw [hclo.D]; exact r.D, ?_, ?_, ?_, ?_, ?_, ?_, ?_, ?_, by simp, hclo.len⟩
    · intro i hi; rw [none_listed] at hi; cases hi
    · intro i hi _; exact hclo.kind i hi (z i)
    · intro t x hx hall'
      have : s2.T.val t = s.T.val t := hclo.tmp t fun i o ho hd _ => by have := hall' i o ho hd; rw [none_listed] at this; cases this
      exact r.T.val t x (by rw [← this]; exact hx)
    · intro t ht; rw [hclo.dom] at ht; exact r.T.dom t ht
    · intro i o t x r' hi _ ho hl hd hx hr
      have := hclo.laid i o t x r' hi (z i) ho hl hd hx hr
      exact ⟨r.h.none_new this.1, this.1, this.2⟩
    · intro i o t x r' i' o' t' x' r'' hi _ ho hl hd hx hr hi' _ ho' hl' hd' hx' hr' hne
      exact hclo.apart i o t x r' i' o' t' x' r'' hi (z i) ho hl hd hx hr hi' (z i') ho' hl' hd' hx' hr' hne
    · intro i o hi _ ho
      unfold allLate at hall
      rw [List.all_eq_true] at hall
      have := hall i (by simpa using (Array.getElem?_eq_some_iff.1 ho).1)
      obtain ⟨o', ho', hq⟩ := hclo.kind i hi (z i)
      rw [ho] at ho'; cases ho'
      simp only [ho, hi, Bool.not_true, Bool.false_or, hq, Bool.or_false] at this
      exact this
    · intro j o _ hj; rw [none_listed] at hj; cases hj
  · unfold left
    exact Nat.le_trans (List.length_filter_le _ _) (by simp)
end
end Go.Ax
end

section
namespace Go.Ax
section
variable {P : Program} {w0 : World}
def Ex.toExit : Ex → Exit
  | .normal => .normal
  | .exit id => .exit id
  | .ret => .ret
def Fits (dl : Bool) (b : Frame) (cs : List Frame) : Prop := dl = true → b.kind = .deferred ∧ b.roundOf = none ∧ recoverD cs = none
def Comes1 (P : Program) (w0 : World) (m : Machine) (b : Frame) (k : List Item) (cs : List Frame) (n : Nat) (μ : Mu) (x : Ex) (s' : AF) : Prop :=
  ∃ a' w' μ', AFR w0 μ' s' a' w' ∧ Grows n μ μ' ∧ n ≤ s'.h.n ∧ Arrives P m b k cs x.toExit a' w'
theorem Comes1.of_steps {m m1 : Machine} {b : Frame} {k : List Item} {cs : List Frame} {n : Nat} {μ : Mu} {x : Ex} {s' : AF} (h : Steps P m m1) (c : Comes1 P w0 m1 b k cs n μ x s') : Comes1 P w0 m b k cs n μ x s' := by
  obtain ⟨a, w, μ', r, g, l, ar⟩ := c
  exact ⟨a, w, μ', r, g, l, .of_steps h ar⟩
theorem Comes1.later {m : Machine} {b : Frame} {k : List Item} {cs : List Frame} {n n' : Nat} {μ μ' : Mu} {x : Ex} {s' : AF} (g : Grows n μ μ') (hn : n ≤ n') (c : Comes1 P w0 m b k cs n' μ' x s') : Comes1 P w0 m b k cs n μ x s' := by
  obtain ⟨a, w, μ'', r, g', l, ar⟩ := c
  exact ⟨a, w, μ'', r, g.trans g' hn, Nat.le_trans hn l, ar⟩
theorem pass_code {m : Machine} {b : Frame} {x : Item} {k : List Item} {cs : List Frame} {e : Ex} {a : Act} {w : World} (hx : x.plain = true) (he : e ≠ .normal) (h : Arrives P m b (x :: k) cs e.toExit a w) : Arrives P m b k cs e.toExit a w :=
  .pass hx (fun _ _ => .inl (by cases e <;> simp [Ex.toExit] at he ⊢)) h
theorem code_sound (hm : P.follows .mixedOrders = true) {F : Nat} (hB : ∀ m, m < F → BodyOk P w0 m) : ∀ (f : Nat), f ≤ F →
    (∀ dl c s x s', acode P f dl c s = some (x, s') → ∀ μ a w, AFR w0 μ s a w → ∀ b k cs, Fits dl b cs → Comes1 P w0 (lone (b.at a (.code c :: k)) cs w) b k cs s.h.n μ x s') ∧
    (∀ dl c s x s', acode P f dl (.loop c) s = some (x, s') → ∀ μ a w, AFR w0 μ s a w → ∀ b k cs, Fits dl b cs → Comes1 P w0 (lone (b.at a (.code c :: .inLoop c :: k)) cs w) b k cs s.h.n μ x s') := by
  intro f
  induction f with
  | zero => intro _; exact ⟨fun dl c s x s' e => by simp [acode] at e, fun dl c s x s' e => by simp [acode] at e⟩
  | succ f ih =>
    intro hfF
    obtain ⟨ihS, ihL⟩ := ih (by omega)
    have loop : ∀ dl c s x s', acode P (f + 1) dl (.loop c) s = some (x, s') → ∀ μ a w, AFR w0 μ s a w → ∀ b k cs, Fits dl b cs → Comes1 P w0 (lone (b.at a (.code c :: .inLoop c :: k)) cs w) b k cs s.h.n μ x s' := by
      intro dl c s x s' e μ a w r b k cs hfit
      simp only [acode] at e
      cases h1 : acode P f dl c s with
      | none => simp [h1] at e
      | some y =>
        obtain ⟨x1, s1⟩ := y
        obtain ⟨a1, w1, μ1, r1, g1, l1, ar1⟩ := ihS dl c s x1 s1 h1 μ a w r b (.inLoop c :: k) cs hfit
        cases x1 with
        | normal =>
          simp only [h1] at e
          have c2 := ihL dl c s1 x s' e μ1 a1 w1 r1 b k cs hfit
          exact (c2.later g1 l1).of_steps (Steps.trans ar1 (.one step_inLoop))
        | exit id =>
          simp only [h1] at e; cases e
          exact ⟨a1, w1, μ1, r1, g1, l1, pass_code rfl (by simp) ar1⟩
        | ret =>
          simp only [h1] at e; cases e
          exact ⟨a1, w1, μ1, r1, g1, l1, pass_code rfl (by simp) ar1⟩
    refine ⟨?_, loop⟩
    intro dl c s x s' e μ a w r b k cs hfit
    cases c with
    | skip => simp [acode] at e; obtain ⟨rfl, rfl⟩ := e; exact ⟨a, w, μ, r, .refl _ _, Nat.le_refl _, .one step_skip⟩
    | ret => simp [acode] at e; obtain ⟨rfl, rfl⟩ := e; exact ⟨a, w, μ, r, .refl _ _, Nat.le_refl _, _, .one step_ret⟩
    | exit id => simp [acode] at e; obtain ⟨rfl, rfl⟩ := e; exact ⟨a, w, μ, r, .refl _ _, Nat.le_refl _, fun _ hk => .one (step_exit hk)⟩
    | seq c1 c2 =>
      simp only [acode] at e
      cases h1 : acode P f dl c1 s with
      | none => simp [h1] at e
      | some y =>
        obtain ⟨x1, s1⟩ := y
        obtain ⟨a1, w1, μ1, r1, g1, l1, ar1⟩ := ihS dl c1 s x1 s1 h1 μ a w r b (.code c2 :: k) cs hfit
        cases x1 with
        | normal =>
          simp only [h1] at e
          exact ((ihS dl c2 s1 x s' e μ1 a1 w1 r1 b k cs hfit).later g1 l1).of_steps (.head step_seq ar1)
        | exit id =>
          simp only [h1] at e; cases e
          exact Comes1.of_steps (.one step_seq) ⟨a1, w1, μ1, r1, g1, l1, pass_code rfl (by simp) ar1⟩
        | ret =>
          simp only [h1] at e; cases e
          exact Comes1.of_steps (.one step_seq) ⟨a1, w1, μ1, r1, g1, l1, pass_code rfl (by simp) ar1⟩
    | cond o c1 c2 =>
      simp only [acode] at e
      split at e
      · rename_i t ho
        have hv := known_of r.T o _ ho
        simp only [VR] at hv
        exact Comes1.of_steps (.one (step_cond hv)) (ihS dl _ s x s' e μ a w r b k cs hfit)
      · cases e
    | block id c1 =>
      simp only [acode] at e
      cases h1 : acode P f dl c1 s with
      | none => simp [h1] at e
      | some y =>
        obtain ⟨x1, s1⟩ := y
        obtain ⟨a1, w1, μ1, r1, g1, l1, ar1⟩ := ihS dl c1 s x1 s1 h1 μ a w r b (.inBlock id :: k) cs hfit
        cases x1 with
        | normal =>
          simp only [h1] at e; cases e
          exact ⟨a1, w1, μ1, r1, g1, l1, .head step_block (Steps.trans ar1 (.one step_inBlock))⟩
        | exit id' =>
          simp only [h1] at e
          split at e
          · rename_i hid
            cases e
            exact ⟨a1, w1, μ1, r1, g1, l1, .head step_block (ar1 k (by simp [exitTo, hid]))⟩
          · rename_i hid
            cases e
            refine ⟨a1, w1, μ1, r1, g1, l1, fun k' hk => .head step_block (ar1 k' ?_)⟩
            have : (id == id') = false := by simp; exact fun h => hid h.symm
            simp [exitTo, this, hk]
        | ret =>
          simp only [h1] at e; cases e
          obtain ⟨todo, ar1⟩ := ar1
          exact ⟨a1, w1, μ1, r1, g1, l1, todo, .head step_block ar1⟩
    | loop c1 => exact Comes1.of_steps (.one step_loop) (loop dl c1 s x s' e μ a w r b k cs hfit)
    | region id ops draw =>
      cases draw with
      | false =>
        simp only [acode] at e
        cases h1 : aops P f dl ops ops.toList s with
        | none => simp [h1] at e
        | some s1 =>
          simp [h1] at e; obtain ⟨rfl, rfl⟩ := e
          have hs := aops_sound (P := P) (w0 := w0) (ops := ops) (dl := dl) f (fun m hm => hB m (by omega)) ops.toList s s1 h1 0 μ a w (by simp) r
          refine Comes1.of_steps (.one step_region) ?_
          cases hdl : dl with
          | false =>
            have := hs.1 hdl (fun e a' w' => e = .normal ∧ ∃ μ', AFR w0 μ' s1 a' w' ∧ Grows s.h.n μ μ' ∧ s.h.n ≤ s1.h.n) (fun μ' a' w' r' g' l' => ⟨rfl, μ', r', g', l'⟩)
            rw [List.drop_zero] at this
            obtain ⟨e, a', w', ⟨rfl, μ', r', g', l'⟩, ar⟩ := wp_ops _ a w this b k cs
            exact ⟨a', w', μ', r', g', l', ar⟩
          | true =>
            obtain ⟨hb1, hb2, hb3⟩ := hfit hdl
            have := hs.2 hdl cs hb3 (fun e a' cs' w' => e = .normal ∧ cs' = cs ∧ ∃ μ', AFR w0 μ' s1 a' w' ∧ Grows s.h.n μ μ' ∧ s.h.n ≤ s1.h.n) (fun μ' a' w' r' g' l' => ⟨rfl, rfl, μ', r', g', l'⟩)
            rw [List.drop_zero] at this
            obtain ⟨e, a', cs', w', ⟨rfl, rfl, μ', r', g', l'⟩, ar⟩ := wp_opsS _ a cs w this b k hb1 hb2
            exact ⟨a', w', μ', r', g', l', ar⟩
      | true =>
        simp only [acode] at e
        split at e
        · rename_i hc
          simp only [Bool.and_eq_true, Bool.not_eq_true'] at hc
          cases h1 : adraw P f ops (Region.before ops) 0 s none with
          | none => simp [h1] at e
          | some s1 =>
            simp [h1] at e; obtain ⟨rfl, rfl⟩ := e
            have := region_draw (id := id) hm hc.2 (fun m hm' => hB m hm') r (f := f) (F := F) (by omega) h1 (fun e a' w' => e = .normal ∧ ∃ μ', AFR w0 μ' s1 a' w' ∧ Grows s.h.n μ μ' ∧ s.h.n ≤ s1.h.n) (fun μ' a' w' r' g' l' => ⟨rfl, μ', r', g', l'⟩)
            obtain ⟨e, a', w', ⟨rfl, μ', r', g', l'⟩, ar⟩ := this b k cs
            exact ⟨a', w', μ', r', g', l', ar⟩
        · cases e
    | rangeFunc _ _ _ _ => simp [acode] at e
    | scope _ => simp [acode] at e
    | label _ => simp [acode] at e
    | goto _ => simp [acode] at e
    | refuse _ => simp [acode] at e
theorem blank_get : ∀ (f n t : Nat) (x : Option AV), (blank f n).get t = some x → x = none ∧ t < n
  | 0, _, _, _, e => by simp [blank, Tr.get_e] at e
  | f + 1, n, t, x, e => by
    have hb : blank (f + 1) n = if n = 0 then .e else .n none (blank f (n / 2)) (blank f ((n - 1) / 2)) := by
      show (bif Nat.beq n 0 then (.e : AT) else .n none (blank f (n / 2)) (blank f ((n - 1) / 2))) = _
      by_cases h : n = 0
      · simp [h]
      · rw [beq_no h]; simp [h]
    rw [hb] at e
    by_cases h0 : n = 0
    · rw [if_pos h0] at e; cases e
    · rw [if_neg h0, Tr.get_n] at e
      by_cases ht : t = 0
      · rw [if_pos ht] at e; cases e; exact ⟨rfl, by omega⟩
      · rw [if_neg ht] at e
        by_cases h1 : t % 2 = 1
        · rw [if_pos h1] at e
          have := blank_get f _ _ x e
          exact ⟨this.1, by omega⟩
        · rw [if_neg h1] at e
          have := blank_get f _ _ x e
          exact ⟨this.1, by omega⟩
theorem putAll_sound {μ : Mu} : ∀ (args : List AV) (T : AT) (i : Nat) (tmps : Array Value), TR μ T tmps → (∀ (j : Nat) v, args[j]? = some v → VR μ v (tmps.getD (i + j) undef)) → TR μ (putAll T i args) tmps
  | [], _, _, _, r, _ => r
  | v :: l, T, i, tmps, r, h => by
    simp only [putAll]
    refine putAll_sound l _ (i + 1) tmps ⟨?_, ?_⟩ (fun j x hx => by have := h (j + 1) x (by simpa using hx); rwa [show i + (j + 1) = i + 1 + j from by omega] at this)
    · intro t x hx
      by_cases ht : t = i
      · subst ht
        have : x = v := by
          unfold AT.val at hx
          rw [Tr.get_set_same] at hx
          cases hg : T.get t with
          | none => simp [hg] at hx
          | some _ => simp [hg] at hx; exact hx.symm
        subst this
        exact h 0 x rfl
      · unfold AT.val at hx
        rw [Tr.get_set_ne _ _ _ _ ht] at hx
        exact r.val t x hx
    · intro t ht
      rw [get_set_isSome] at ht
      exact r.dom t ht
theorem enter_sound {μ : Mu} {n : Nat} {args : List AV} {args' : Array Value} (ha : VRs μ args args'.toList) (hn : args.length ≤ n) : TR μ (enterT n args) (args' ++ Array.replicate (n - args'.size) undef) := by
  have hlen := ha.length
  simp at hlen
  refine putAll_sound args _ 0 _ ⟨?_, ?_⟩ ?_
  · intro t v hv
    unfold AT.val at hv
    cases hg : (blank 20 n).get t with
    | none => simp [hg] at hv
    | some x => have := (blank_get 20 n t x hg).1; subst this; simp [hg] at hv
  · intro t ht
    cases hg : (blank 20 n).get t with
    | none => simp [hg] at ht
    | some x => have := (blank_get 20 n t x hg).2; simp; omega
  · intro j v hv
    obtain ⟨c, hc, hr⟩ := ha.get hv
    have hlt := (List.getElem?_eq_some_iff.1 hv).1
    rw [Array.getElem?_toList] at hc
    rw [Nat.zero_add, Array.getD_eq_getD_getElem?, Array.getElem?_append_left (by omega), hc]
    exact hr
theorem results_sound {μ : Mu} {h : AH} {w : World} {T : AT} {tmps : Array Value} (s : Sim w0 μ h w) (r : TR μ T tmps) : ∀ (l : List ResultVar) (vs : List AV), resultsA P l T h = some vs →
    ∃ cs, (l.mapM (m := Sem) fun | .tmp t => pure (tmps.getD t undef) | .cell a t => do loadVar t (← asAddr (tmps.getD a undef))).run P w = .ok cs w ∧ VRs μ vs cs
  | [], _, e => by simp only [resultsA, Option.some.injEq] at e; subst e; exact ⟨[], by simp, .nil⟩
  | .tmp t :: l, _, e => by
    simp only [resultsA] at e
    cases hv : T.val t with
    | none => simp [hv] at e
    | some v =>
      cases hl : resultsA P l T h with
      | none => simp [hv, hl] at e
      | some vs =>
        simp [hv, hl] at e; subst e
        obtain ⟨cs, hr, hvs⟩ := results_sound s r l vs hl
        refine ⟨tmps.getD t undef :: cs, ?_, .cons (r.val t v hv) hvs⟩
        rw [List.mapM_cons]
        simp only [Sem.run_bind, Sem.run_pure, Result.andThen_ok]
        rw [hr]; rfl
  | .cell x t :: l, _, e => by
    simp only [resultsA] at e
    split at e
    · rename_i rr o hx
      cases hld : loadA P h t rr o with
      | none => simp [hld] at e
      | some v =>
        cases hl : resultsA P l T h with
        | none => simp [hld, hl] at e
        | some vs =>
          simp [hld, hl] at e; subst e
          obtain ⟨cs, hr, hvs⟩ := results_sound s r l vs hl
          have hxv := r.val x _ hx
          simp only [VR] at hxv; obtain ⟨p, hp, hxv⟩ := hxv
          obtain ⟨c, hlr, hcv⟩ := s.load (P := P) hp hld
          refine ⟨c :: cs, ?_, .cons hcv hvs⟩
          rw [List.mapM_cons]
          have hasa : (asAddr (tmps.getD x undef)).run P w = .ok ⟨p.b, p.o + o, none⟩ w := by rw [hxv]; rfl
          simp only [Sem.run_bind, hasa, Result.andThen_ok, hlr]
          rw [hr]; rfl
    · cases e
theorem result_sound {μ : Mu} {h : AH} {w : World} {T : AT} {tmps : Array Value} {fn : Func} {vs : List AV} (s : Sim w0 μ h w) (r : TR μ T tmps) (e : resultsA P fn.results.toList T h = some vs) :
    ∃ c, (results fn tmps).run P w = .ok c w ∧ VR μ (oneOf vs) c := by
  obtain ⟨cs, hr, hvs⟩ := results_sound s r fn.results.toList vs e
  have hrun : (fn.results.mapM (m := Sem) fun | .tmp t => pure (tmps.getD t undef) | .cell a t => do loadVar t (← asAddr (tmps.getD a undef))).run P w = .ok cs.toArray w := by
    rw [Array.mapM_eq_mapM_toList]
    simp only [Sem.run_map, hr, Result.andThen_ok]
  refine ⟨(if h : cs.toArray.size = 1 then cs.toArray[0] else .tuple cs.toArray), ?_, ?_⟩
  · unfold results
    rw [Sem.run_bind]
    refine (congrArg (fun r => Result.andThen r _) hrun).trans ?_
    rfl
  · have hlen := hvs.length
    match vs, cs, hvs, hlen with
    | [], [], hvs, _ => simp only [oneOf, VR]; exact ⟨_, rfl, .nil⟩
    | [v], [c], hvs, _ =>
      obtain ⟨c', cs', hh, hv, _⟩ := hvs.cons_inv
      cases hh; exact hv
    | v1 :: v2 :: vs, c1 :: c2 :: cs, hvs, _ =>
      have hne : ¬ (c1 :: c2 :: cs).toArray.size = 1 := by simp
      rw [dif_neg hne]
      simp only [oneOf, VR]
      exact ⟨_, rfl, by simpa using hvs⟩
theorem leaves_sound {F : Nat} (hB : ∀ m, m < F → BodyOk P w0 m) {fn : Func} {tmps : Array Value} {R : Ending → World → Prop} : ∀ (f : Nat), f ≤ F → ∀ (D : List ADef) (h h' : AH), adefers P f false D h = some h' → ∀ (μ : Mu) (defers : List Deferred) (w : World),
    DRs μ D defers → Sim w0 μ h w → (∀ μ' w', Sim w0 μ' h' w' → Grows h.n μ μ' → h.n ≤ h'.n → ∃ v, (results fn tmps).run P w' = .ok v w' ∧ R (.returned v) w') → Leaves P fn tmps R defers .returning w
  | 0, _, _, _, _, e => by simp [adefers] at e
  | f + 1, _, [], h, h', e => by
    intro μ defers w hD hS hR
    simp [adefers] at e; subst e
    cases hD
    exact hR μ w hS (.refl _ _) (Nat.le_refl _)
  | f + 1, hF, d :: ds, h, h', e => by
    intro μ defers w hD hS hR
    obtain ⟨args, cap, l', rfl, ha, hc, hds⟩ := hD
    simp only [adefers, Bool.false_eq_true, if_false] at e
    cases hi : invokeA P d.fn d.args d.cap with
    | none => simp [hi] at e
    | some an =>
      obtain ⟨g, as, rfl⟩ := invokeA_enter hi
      simp only [hi] at e
      cases hb : abody P f true (asksF P g) g as h with
      | none => simp [hb] at e
      | some y =>
        obtain ⟨v, h1⟩ := y
        simp only [hb] at e
        obtain ⟨as', hinv, has⟩ := invoke_sound (w := w) ha hc hi
        refine leaves_cons (by simp) hinv ?_
        refine ((hB f (by omega)).deferred (asksF P g) g as h v h1 hb μ as' w has hS).mono fun en u' w' hret => ?_
        obtain ⟨rfl, c, μ', rfl, hv, hS', hg, hn⟩ := hret
        show Leaves P fn tmps R l' (settle .returning) w'
        exact leaves_sound hB f (by omega) ds h1 h' e μ' l' w' (hds.mono hg.1) hS' fun μ'' w'' hS'' hg' hn' => hR μ'' w'' hS'' (hg.trans hg' hn) (Nat.le_trans hn hn')
theorem defers_nil {f : Nat} {D : List ADef} {h h' : AH} (e : adefers P f true D h = some h') : D = [] ∧ h = h' := by
  cases f with
  | zero => simp [adefers] at e
  | succ f =>
    cases D with
    | nil => simp [adefers] at e; exact ⟨rfl, e⟩
    | cons d ds => simp [adefers] at e
theorem body_sound (hm : P.follows .mixedOrders = true) : ∀ m, BodyOk P w0 m := by
  intro m
  induction m using Nat.strongRecOn with
  | _ m ih =>
    cases m with
    | zero => exact ⟨fun g args h v h' e => by simp [abody] at e, fun dl g args h v h' e => by simp [abody] at e⟩
    | succ f =>
      have hB : ∀ m, m < f + 1 → BodyOk P w0 m := fun m hm' => ih m hm'
      have parts : ∀ (df dl : Bool) g args h v h', abody P (f + 1) df dl g args h = some (v, h') → ∃ fn c x s h1 l, P.funcs[g]? = some fn ∧ fn.body = some c ∧ args.length ≤ fn.ntmps ∧ acode P f dl c ⟨enterT fn.ntmps args, [], h⟩ = some (x, s) ∧
          (x = .normal ∨ x = .ret) ∧ adefers P f df s.D s.h = some h1 ∧ resultsA P fn.results.toList s.T h1 = some l ∧ v = oneOf l ∧ h' = h1 := by
        intro df dl g args h v h' e
        simp only [abody] at e
        cases hf : P.funcs[g]? with
        | none => simp [hf] at e
        | some fn =>
          simp only [hf] at e
          cases hb : fn.body with
          | none => simp [hb] at e
          | some c =>
            simp only [hb] at e
            split at e
            · rename_i hlen
              cases hc : acode P f dl c ⟨enterT fn.ntmps args, [], h⟩ with
              | none => simp [hc] at e
              | some y =>
                obtain ⟨x, s⟩ := y
                have rest : (x = .normal ∨ x = .ret) ∧ (match adefers P f df s.D s.h with | some h => (match resultsA P fn.results.toList s.T h with | some l => some (oneOf l, h) | none => none) | none => none) = some (v, h') := by
                  cases x with
                  | normal => simp only [hc] at e; exact ⟨.inl rfl, e⟩
                  | ret => simp only [hc] at e; exact ⟨.inr rfl, e⟩
                  | exit id => simp [hc] at e
                obtain ⟨hx, e⟩ := rest
                cases hd : adefers P f df s.D s.h with
                | none => simp [hd] at e
                | some h1 =>
                  simp only [hd] at e
                  cases hr : resultsA P fn.results.toList s.T h1 with
                  | none => simp [hr] at e
                  | some l =>
                    simp [hr] at e
                    exact ⟨fn, c, x, s, h1, l, rfl, hb, hlen, hc, hx, hd, hr, e.1.symm, e.2.symm⟩
            · cases e
      have start : ∀ (args : List AV) (args' : Array Value) (h : AH) (μ : Mu) (w : World) (fn : Func), VRs μ args args'.toList → Sim w0 μ h w → args.length ≤ fn.ntmps →
          AFR w0 μ ⟨enterT fn.ntmps args, [], h⟩ { tmps := args' ++ Array.replicate (fn.ntmps - args'.size) undef, defers := [] } w :=
        fun args args' h μ w fn ha hS hn => ⟨enter_sound ha hn, rfl, hS⟩
      refine ⟨?_, ?_⟩
      · intro g args h v h' e μ args' w ha hS
        obtain ⟨fn, c, x, s, h1, l, hf, hb, hlen, hc, hx, hd, hr, rfl, rfl⟩ := parts false false g args h v h' e
        refine calls_of_wp_defers hf hb ?_
        intro b k cs
        obtain ⟨a', w', μ', r', g', l', ar⟩ := (code_sound hm hB f (by omega)).1 false c _ x s hc μ _ w (start args args' h μ w fn ha hS hlen) b k cs (fun hh => by cases hh)
        have lv : Leaves P fn a'.tmps (RetOk w0 μ h (oneOf l) h') a'.defers .returning w' := by
          refine leaves_sound hB f (by omega) s.D s.h h' hd μ' a'.defers w' r'.D r'.h fun μ'' w'' hS'' hg'' hn'' => ?_
          obtain ⟨cv, hrun, hcv⟩ := result_sound hS'' (r'.T.mono hg''.1) hr
          exact ⟨cv, hrun, cv, μ'', rfl, hcv, hS'', g'.trans hg'' l', Nat.le_trans l' hn''⟩
        rcases hx with rfl | rfl
        · exact ⟨.normal, a', w', lv, ar⟩
        · exact ⟨.ret, a', w', lv, ar⟩
      · intro dl g args h v h' e μ args' w ha hS
        obtain ⟨fn, c, x, s, h1, l, hf, hb, hlen, hc, hx, hd, hr, rfl, rfl⟩ := parts true dl g args h v h' e
        obtain ⟨hD0, rfl⟩ := defers_nil hd
        cases dl with
        | false =>
          refine callsD_of_wp hf hb ?_
          intro b k cs
          obtain ⟨a', w', μ', r', g', l', ar⟩ := (code_sound hm hB f (by omega)).1 false c _ x s hc μ _ w (start args args' h μ w fn ha hS hlen) b k cs (fun hh => by cases hh)
          have hdn : a'.defers = [] := by have := r'.D; rw [hD0] at this; exact this
          obtain ⟨cv, hrun, hcv⟩ := result_sound r'.h r'.T hr
          rcases hx with rfl | rfl
          · exact ⟨.normal, a', w', ⟨hdn, cv, hrun, cv, μ', rfl, hcv, r'.h, g', l'⟩, ar⟩
          · exact ⟨.ret, a', w', ⟨hdn, cv, hrun, cv, μ', rfl, hcv, r'.h, g', l'⟩, ar⟩
        | true =>
          refine callsD_of_wpS hf hb ?_
          intro c0 cs hmode
          intro b k hb1 hb2
          have hrec : recoverD (c0 :: cs) = none := by simp [recoverD, hmode]
          obtain ⟨a', w', μ', r', g', l', ar⟩ := (code_sound hm hB f (by omega)).1 true c _ x s hc μ _ w (start args args' h μ w fn ha hS hlen) b k (c0 :: cs) (fun _ => ⟨hb1, hb2, hrec⟩)
          have hdn : a'.defers = [] := by have := r'.D; rw [hD0] at this; exact this
          obtain ⟨cv, hrun, hcv⟩ := result_sound r'.h r'.T hr
          have hc0 : c0 :: cs = { c0 with mode := .returning } :: cs := by rw [← hmode]
          rcases hx with rfl | rfl
          · exact ⟨.normal, a', c0 :: cs, w', ⟨hdn, .returning, hc0, cv, hrun, rfl, cv, μ', rfl, hcv, r'.h, g', l'⟩, ar⟩
          · exact ⟨.ret, a', c0 :: cs, w', ⟨hdn, .returning, hc0, cv, hrun, rfl, cv, μ', rfl, hcv, r'.h, g', l'⟩, ar⟩
end

theorem closed_run {P : Program} (hm : P.follows .mixedOrders = true) {f : Nat} {g : FuncId} {b : Bool} {h' : AH} (e : abody P f false false g [] ⟨.e, 0⟩ = some (.bool b, h')) (w : World) :
    Calls P g #[] w fun e w' => e = .returned (.bool b) ∧ Go.RowKit.Below w.heap.size w w' := by
  refine ((body_sound (P := P) (w0 := w) hm f).call g [] ⟨.e, 0⟩ (.bool b) h' e (fun _ => none) #[] w .nil (Sim.start w)).mono fun en w' hr => ?_
  obtain ⟨c, μ', rfl, hv, hS, _, _⟩ := hr
  simp only [VR] at hv; subst hv
  exact ⟨rfl, hS.below⟩
end Go.Ax
end

end
