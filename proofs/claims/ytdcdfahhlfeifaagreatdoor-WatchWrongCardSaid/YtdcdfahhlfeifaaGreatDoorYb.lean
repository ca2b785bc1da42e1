/- Names and values in plain Lean; value.Validate and watch.isSights: their walks. -/
import Derived.Test.YtdcdfahhlfeifaaGreatDoorYa
import Derived.Shelf.Strconv.Itoa3
import Derived.Deep.RegionHeld3
section
namespace Go.Proofs.YtdcdfahhlfeifaaGreatDoor.Q
open Go.RowKit Go.Proofs.YtdcdfahhlfeifaaGreatDoorW.PrintWords Go.Proofs.YtdcdfahhlfeifaaGreatDoorW.PrintLast Go.Proofs.YtdcdfahhlfeifaaGreatDoorW.PrintMore
def Tab (w : World) : Prop := Lib.TabIs Tryz.prog w "internal/strconv.uint64pow10" .u64 Lib.pow10Tab
theorem Tab.below {w w' : World} (h : Tab w) (hb : Below w.heap.size w w') : Tab w' := by
  unfold Tab Lib.TabIs World.var? at h ⊢
  cases hg : Tryz.prog.globalNamed "internal/strconv.uint64pow10" with
  | none => rw [hg] at h; cases h
  | some g =>
    rw [hg] at h
    simp only [Option.bind_some] at h ⊢
    have hlt : g < w.heap.size := by
      rcases Nat.lt_or_ge g w.heap.size with h' | h'
      · exact h'
      · rw [Array.getElem?_eq_none h'] at h; cases h
    rw [hb.block g hlt]; exact h
def small (c : UInt8) : Bool := 97 ≤ c && c ≤ 122
def great (c : UInt8) : Bool := 65 ≤ c && c ≤ 90
def digit (c : UInt8) : Bool := 48 ≤ c && c ≤ 57
def tailB (c : UInt8) : Bool := small c || great c || digit c || c == 95
def words : List (List UInt8) := [[100, 97, 116, 97], [99, 108, 97, 115, 115], [105, 110, 115, 116, 97, 110, 99, 101], [111, 112], [101, 110, 100], [119, 104, 101, 114, 101], [108, 101, 116], [105, 110], [102, 114, 101, 101], [99, 97, 115, 101], [114, 105, 103, 105, 100], [111, 102], [102, 97, 105, 108]]
def nameB (p : UInt8 → Bool) : List UInt8 → Bool
  | [] => false
  | c :: l => p c && l.all tailB && decide (l.length ≤ 15)
def smallB (l : List UInt8) : Bool := nameB small l && !words.contains l
def lowB : List UInt8 → Bool
  | 95 :: c :: l => (c :: l).all tailB && decide (l.length ≤ 14)
  | _ => false
def coreB (l : List UInt8) : Bool := smallB l || lowB l
def bs (s : ByteArray) : List UInt8 := s.data.toList
mutual
def fitsB : S38 → Bool
  | ⟨_, _, _, l⟩ => decide (l.length ≤ 9223372036854775807) && fitsL l
def fitsL : List S38 → Bool
  | [] => true
  | v :: l => fitsB v && fitsL l
end
theorem fitsL_mem : ∀ {l : List S38} {x : S38}, fitsL l = true → x ∈ l → fitsB x = true
  | [], _, _, h => by cases h
  | v :: l, x, h, hx => by
    simp only [fitsL, Bool.and_eq_true] at h
    rcases List.mem_cons.1 hx with rfl | hx
    · exact h.1
    · exact fitsL_mem h.2 hx
theorem fitsB_len {v : S38} (h : fitsB v = true) : v.f3.length ≤ 9223372036854775807 := by
  obtain ⟨a, b, c, l⟩ := v
  simp only [fitsB, Bool.and_eq_true, decide_eq_true_eq] at h
  exact h.1
theorem fitsB_mem {v x : S38} (h : fitsB v = true) (hx : x ∈ v.f3) : fitsB x = true := by
  obtain ⟨a, b, c, l⟩ := v
  simp only [fitsB, Bool.and_eq_true] at h
  exact fitsL_mem h.2 hx
def fits40 (s : S40) : Bool := decide (s.f1.length ≤ 9223372036854775807) && fitsL s.f1 && fitsB s.f2
def deepF : Nat → S38 → Bool
  | 0, _ => true
  | n + 1, v => v.f3.any (deepF n)
def cntF : Nat → S38 → Nat
  | 0, _ => 0
  | n + 1, v => 1 + (v.f3.map (cntF n)).sum
def nodeB (v : S38) : Bool :=
  if v.f0 = 1 then nameB great (bs v.f1) && decide (v.f2 = 0) && decide (v.f3.length ≤ 8)
  else if v.f0 = 4 then coreB (bs v.f1) && decide (v.f2 = 0) && decide (v.f3.length ≤ 8)
  else if v.f0 = 2 then decide (bs v.f1 = []) && decide (v.f3.length = 0) && decide (-1000000000 ≤ v.f2) && decide (v.f2 ≤ 1000000000)
  else if v.f0 = 3 then decide (bs v.f1 = []) && decide (v.f3.length = 0) && decide (0 ≤ v.f2) && decide (v.f2 ≤ 300)
  else false
def rightF : Nat → S38 → Bool
  | 0, _ => true
  | n + 1, v => nodeB v && v.f3.all (rightF n)
def validF (v : S38) : Int := if deepF 40 v then 3 else if 300 < cntF 40 v then 3 else if rightF 40 v then 0 else 1
def txt : Nat → S38 → List UInt8
  | 0, _ => []
  | n + 1, v =>
    if v.f0 = 2 then Lib.itoa v.f2 else if v.f0 = 3 then 95 :: Lib.itoa v.f2
    else (if v.f0 = 4 then 39 :: bs v.f1 else bs v.f1) ++ v.f3.flatMap fun k => 32 :: (if k.f3.length = 0 then txt n k else 40 :: (txt n k ++ [41]))
def inn (n : Nat) (k : S38) : List UInt8 := if k.f3.length = 0 then txt n k else 40 :: (txt n k ++ [41])
def textF (v : S38) : Option ByteArray := if validF v = 0 then some ⟨(txt 40 v).toArray⟩ else none
def ups (l : List S40) : Nat → Int → Option Nat
  | 0, k => if k < 0 then some 0 else none
  | n + 1, k => if k < 0 then some 0 else (ups l n (rd_T40 l k).f3).map (· + 1)
def sightB (n : Nat) (s : S40) : Bool := coreB (bs s.f0) && decide (-1 ≤ s.f3) && decide (s.f3 < n) && decide (s.f1.length ≤ 8)
def firstErr : List S38 → Int
  | [] => 0
  | v :: l => if validF v = 0 then firstErr l else validF v
def sightsF (l : List S40) : Int :=
  if 400 < l.length then 3
  else if l.all (sightB l.length) then
    if l.all fun s => (ups l (l.length + 1) s.f3).isSome then firstErr (l.flatMap fun s => s.f1 ++ [s.f2]) else 1
  else 1
def belowAt (k : Int) : Int → List S40 → List Int
  | _, [] => []
  | i, s :: l => if s.f3 = k then i :: belowAt k (i + 1) l else belowAt k (i + 1) l
def below (l : List S40) (k : Int) : List Int := belowAt k 0 l
def scan (bad : List Bool) : List Int → List Int × Option Int
  | [] => ([], none)
  | i :: l => if rdOf false bad i then ([i], some i) else (i :: (scan bad l).1, (scan bad l).2)
def downF (l : List S40) (bad : List Bool) : Nat → Int → List Int → Option (Int × List Int × Bool × Int)
  | 0, _, _ => none
  | n + 1, at_, asked =>
    match scan bad (below l at_) with
    | (more, none) => if at_ < 0 then some (0, asked ++ more, false, 0) else some (at_, asked ++ more, true, 0)
    | (more, some i) => downF l bad n i (asked ++ more)
def wrongF (l : List S40) (bad : List Bool) : Option (Int × List Int × Bool × Int) :=
  if sightsF l = 0 then if bad.length = l.length then downF l bad (l.length + 1) (-1) [] else some (0, [], false, 8) else some (0, [], false, sightsF l)
def line (l : List S40) (s : S40) : List UInt8 :=
  List.replicate (2 * (ups l (l.length + 1) s.f3).getD 0) 32 ++ bs s.f0 ++ (s.f1.flatMap fun a => 32 :: inn 40 a) ++ [32, 61, 32] ++ txt 40 s.f2 ++ [10]
def printF (l : List S40) : ByteArray × Int :=
  if sightsF l = 0 then if 20000 < (l.flatMap (line l)).length then (⟨#[]⟩, 3) else (⟨(l.flatMap (line l)).toArray⟩, 0) else (⟨#[]⟩, sightsF l)
end Go.Proofs.YtdcdfahhlfeifaaGreatDoor.Q

end
section
namespace Go.Proofs.YtdcdfahhlfeifaaGreatDoor.Q
open Go.RowKit Go.Proofs.YtdcdfahhlfeifaaGreatDoorW.PrintWords Go.Proofs.YtdcdfahhlfeifaaGreatDoorW.PrintLast Go.Proofs.YtdcdfahhlfeifaaGreatDoorW.PrintMore
set_option linter.unusedVariables false
theorem fitsL_all : ∀ {l : List S38}, (∀ x ∈ l, fitsB x = true) → fitsL l = true
  | [], _ => rfl
  | v :: l, h => by
    simp only [fitsL, Bool.and_eq_true]
    exact ⟨h v (by simp), fitsL_all fun x hx => h x (by simp [hx])⟩
theorem fitsB_mk {v : S38} (h1 : v.f3.length ≤ 9223372036854775807) (h2 : fitsL v.f3 = true) : fitsB v = true := by
  obtain ⟨a, b, c, l⟩ := v
  simp only [fitsB, Bool.and_eq_true, decide_eq_true_eq]
  exact ⟨h1, h2⟩
theorem C_len {α : Type} {d : Kd α} {w : World} {A : Option Addr} {n : Nat} {l : List α} (h : Kd.C d w A n l) : n ≤ 9223372036854775807 := h.2.1
theorem fits_of_C (w : World) : ∀ (n : Nat) (l : List S38), SizeOf.sizeOf l ≤ n → ∀ A, Kd.C k38 w A l.length l → fitsL l = true
  | 0, l, hn, A, h => by cases l <;> simp at hn
  | n + 1, l, hn, A, h => by
    refine fitsL_all fun x hx => ?_
    obtain ⟨i, hi, rfl⟩ := List.getElem_of_mem hx
    obtain ⟨ad, A3, c3, _, _, _, _, _, _, hC⟩ := at_T38 h (i : Int) (by omega) (by omega)
    rw [show rd_T38 l (i : Int) = l[i] by simp [rd_T38, List.getD, hi]] at hC
    refine fitsB_mk (C_len hC) (fits_of_C w n _ ?_ A3 hC)
    have h1 := List.sizeOf_lt_of_mem hx
    have h2 : SizeOf.sizeOf l[i].f3 < SizeOf.sizeOf l[i] := by
      cases l[i]; simp; omega
    omega
theorem fits40_of_C (w : World) (l : List S40) (A : Option Addr) (h : Kd.C k40 w A l.length l) : l.all fits40 = true := by
  rw [List.all_eq_true]
  intro x hx
  obtain ⟨i, hi, rfl⟩ := List.getElem_of_mem hx
  obtain ⟨ad, A1, c1, A5, c5, _, _, _, _, _, _, _, _, _, hC1, _, hC5⟩ := at_T40 h (i : Int) (by omega) (by omega)
  rw [show rd_T40 l (i : Int) = l[i] by simp [rd_T40, List.getD, hi]] at hC1 hC5
  simp only [fits40, Bool.and_eq_true, decide_eq_true_eq]
  exact ⟨⟨C_len hC1, fits_of_C w _ _ (Nat.le_refl _) A1 hC1⟩, fitsB_mk (C_len hC5) (fits_of_C w _ _ (Nat.le_refl _) A5 hC5)⟩
end Go.Proofs.YtdcdfahhlfeifaaGreatDoor.Q

end
section
namespace Go.Proofs.YtdcdfahhlfeifaaGreatDoor.Q
open Go.RowKit Go.Proofs.YtdcdfahhlfeifaaGreatDoorW.PrintWords Go.Proofs.YtdcdfahhlfeifaaGreatDoorW.PrintLast Go.Proofs.YtdcdfahhlfeifaaGreatDoorW.PrintMore
set_option linter.unusedVariables false
def Evt {α : Type} (f : Nat → Option α) (r : α) : Prop := ∃ k0, ∀ k, k0 ≤ k → f k = some r
theorem Evt.of {α : Type} {f : Nat → Option α} {r : α} (h : ∀ k, f k = some r) : Evt f r := ⟨0, fun k _ => h k⟩
theorem Evt.congr {α : Type} {f g : Nat → Option α} {r : α} (h : Evt f r) (e : ∀ k, g (k + 1) = f k) : Evt g r := by
  obtain ⟨k0, h⟩ := h
  refine ⟨k0 + 1, fun k hk => ?_⟩
  obtain ⟨m, rfl⟩ : ∃ m, k = m + 1 := ⟨k - 1, by omega⟩
  rw [e]; exact h m (by omega)
theorem Evt.congr0 {α : Type} {f g : Nat → Option α} {r : α} (h : Evt f r) (e : ∀ k, g k = f k) : Evt g r := by
  obtain ⟨k0, h⟩ := h
  exact ⟨k0, fun k hk => by rw [e]; exact h k hk⟩
theorem Evt.call {α β : Type} {f : Nat → Option α} {F : Nat → Option β} {g : Nat → Option β} {G : Nat → α → Option β} {r : α} {q : β} (h : Evt f r) (k : Evt g q) (e : ∀ n, F (n + 1) = (f n).bind (G n)) (eG : ∀ n, G n r = g n) : Evt F q := by
  obtain ⟨k0, h⟩ := h
  obtain ⟨k1, k⟩ := k
  refine ⟨k0 + k1 + 1, fun n hn => ?_⟩
  obtain ⟨m, rfl⟩ : ∃ m, n = m + 1 := ⟨n - 1, by omega⟩
  rw [e, h m (by omega), Option.bind_some, eG]; exact k m (by omega)
theorem size_bs (s : ByteArray) : (bs s).length = s.size := by show s.data.toList.length = s.data.size; exact Array.length_toList
theorem toList_bs (s : ByteArray) : s.toList = bs s := by rw [bs, ByteArray.toList_eq]
theorem bt_bs (s : ByteArray) (i : Int) (h : i.toNat < s.size) : bt s i = (((bs s).getD i.toNat 0).toNat : Int) := by
  have h2 : i.toNat < (bs s).length := by rw [size_bs]; exact h
  unfold bt
  rw [dif_pos h, List.getD, List.getElem?_eq_getElem h2]
  simp [bs, ByteArray.getElem_eq_getElem_data]
theorem wrap_up {i : Int} (h0 : 0 ≤ i) (h : i < 9223372036854775807) : wrap64 (i + 1) = i + 1 := by
  unfold wrap64; omega
theorem loop_all (F : Nat → Int → Option Bool) (s : ByteArray) (tl : UInt8 → Bool)
    (hstep : ∀ (k : Nat) (i : Int), 0 ≤ i → i < s.size → F (k + 1) i = if tl ((bs s).getD i.toNat 0) then F k (i + 1) else some false) (hend : ∀ (k : Nat) (i : Int), (s.size : Int) ≤ i → F (k + 1) i = some true) :
    ∀ (d k : Nat) (i : Int), 0 ≤ i → (s.size : Int) - i ≤ d → d < k → F k i = some (((bs s).drop i.toNat).all tl)
  | 0, k, i, h0, hd, hk => by
    obtain ⟨k, rfl⟩ : ∃ m, k = m + 1 := ⟨k - 1, by omega⟩
    rw [hend k i (by omega), List.drop_of_length_le (by rw [size_bs]; omega)]; rfl
  | d + 1, k, i, h0, hd, hk => by
    obtain ⟨k, rfl⟩ : ∃ m, k = m + 1 := ⟨k - 1, by omega⟩
    by_cases h : i < s.size
    · have hl : i.toNat < (bs s).length := by rw [size_bs]; omega
      rw [hstep k i h0 h, List.drop_eq_getElem_cons hl, List.all_cons, List.getD, List.getElem?_eq_getElem hl]
      cases ht : tl (bs s)[i.toNat] with
      | false => simp [ht]
      | true =>
        have := loop_all F s tl hstep hend d k (i + 1) (by omega) (by omega) (by omega)
        rw [show (i + 1).toNat = i.toNat + 1 from by omega] at this
        simpa [ht] using this
    · rw [hend k i (by omega), List.drop_of_length_le (by rw [size_bs]; omega)]; rfl
theorem small_iff (c : UInt8) : small c = true ↔ 97 ≤ (c.toNat : Int) ∧ (c.toNat : Int) ≤ 122 := by
  simp only [small, Bool.and_eq_true, decide_eq_true_eq, UInt8.le_iff_toNat_le]; simp; omega
theorem great_iff (c : UInt8) : great c = true ↔ 65 ≤ (c.toNat : Int) ∧ (c.toNat : Int) ≤ 90 := by
  simp only [great, Bool.and_eq_true, decide_eq_true_eq, UInt8.le_iff_toNat_le]; simp; omega
theorem digit_iff (c : UInt8) : digit c = true ↔ 48 ≤ (c.toNat : Int) ∧ (c.toNat : Int) ≤ 57 := by
  simp only [digit, Bool.and_eq_true, decide_eq_true_eq, UInt8.le_iff_toNat_le]; simp; omega
theorem low_iff (c : UInt8) : (c == 95) = true ↔ (c.toNat : Int) = 95 := by
  rw [beq_iff_eq, ← UInt8.toNat_inj]; simp; omega
theorem tail_iff (c : UInt8) : tailB c = true ↔ (97 ≤ (c.toNat : Int) ∧ (c.toNat : Int) ≤ 122) ∨ (65 ≤ (c.toNat : Int) ∧ (c.toNat : Int) ≤ 90) ∨ (48 ≤ (c.toNat : Int) ∧ (c.toNat : Int) ≤ 57) ∨ (c.toNat : Int) = 95 := by
  simp only [tailB, Bool.or_eq_true, small_iff, great_iff, digit_iff, low_iff]; omega
end Go.Proofs.YtdcdfahhlfeifaaGreatDoor.Q

end
section
namespace Go.Proofs.YtdcdfahhlfeifaaGreatDoor.Q
open Go.RowKit Go.Proofs.YtdcdfahhlfeifaaGreatDoorW.PrintWords Go.Proofs.YtdcdfahhlfeifaaGreatDoorW.PrintLast Go.Proofs.YtdcdfahhlfeifaaGreatDoorW.PrintMore
set_option linter.unusedVariables false
theorem isName_step (s : ByteArray) (hs : s.size ≤ 16) (k : Nat) (i : Int) (h0 : 0 ≤ i) (h : i < s.size) :
    value_isName.l0 (k + 1) s i = if tailB ((bs s).getD i.toNat 0) then value_isName.l0 k s (i + 1) else some false := by
  simp only [value_isName.l0]
  rw [if_pos h, if_pos h0, wrap_up h0 (by omega), bt_bs s i (by omega)]
  generalize (bs s).getD i.toNat 0 = c
  have ht := tail_iff c
  by_cases hc : tailB c = true
  · rw [if_pos hc]
    rw [ht] at hc
    repeat' split
    all_goals first | rfl | (exfalso; omega)
  · rw [if_neg hc]
    rw [ht] at hc
    repeat' split
    all_goals first | rfl | (exfalso; omega)
theorem isName_loop (s : ByteArray) (hs : s.size ≤ 16) (k : Nat) (hk : 17 < k) : value_isName.l0 k s 1 = some (((bs s).drop 1).all tailB) :=
  loop_all (value_isName.l0 · s) s tailB (fun k i h0 h => isName_step s hs k i h0 h) (fun k i h => by show value_isName.l0 (k + 1) s i = _; simp only [value_isName.l0]; rw [if_neg (by omega)]) 17 k 1 (by omega) (by omega) hk
theorem isName_evt (s : ByteArray) (lo hi : Int) (p : UInt8 → Bool) (hp : ∀ c, p c = true ↔ lo ≤ (c.toNat : Int) ∧ (c.toNat : Int) ≤ hi) : Evt (fun k => value_isName.f k s lo hi) (nameB p (bs s)) := by
  refine ⟨19, fun k hk => ?_⟩
  obtain ⟨k, rfl⟩ : ∃ m, k = m + 1 := ⟨k - 1, by omega⟩
  have hz := size_bs s
  show value_isName.f (k + 1) s lo hi = _
  unfold value_isName.f
  cases hb : bs s with
  | nil =>
    rw [hb] at hz
    rw [if_pos (by simp at hz; omega)]
    simp [value_isName.j0, nameB]
  | cons c l =>
    rw [hb] at hz
    simp only [List.length_cons] at hz
    rw [if_neg (by omega)]
    by_cases h16 : (s.size : Int) > 16
    · rw [if_pos h16]
      simp only [value_isName.j0, nameB]
      rw [decide_eq_false (p := l.length ≤ 15) (by omega)]; simp
    · rw [if_neg h16, if_pos (by omega), bt_bs s 0 (by omega), hb]
      have hc := hp c
      simp only [Int.toNat_zero, List.getD_cons_zero]
      have hd : decide (l.length ≤ 15) = true := decide_eq_true (by omega)
      have hl := isName_loop s (by omega) k (by omega)
      rw [hb] at hl
      simp only [List.drop_succ_cons, List.drop_zero] at hl
      simp only [nameB, hd, Bool.and_true]
      by_cases h1 : (c.toNat : Int) < lo
      · rw [if_pos h1]
        have : p c = false := by
          cases hpc : p c with
          | false => rfl
          | true => have := hc.1 hpc; omega
        simp [value_isName.j0, this]
      · rw [if_neg h1]
        by_cases h2 : (c.toNat : Int) > hi
        · have : p c = false := by
            cases hpc : p c with
            | false => rfl
            | true => have := hc.1 hpc; omega
          simp [value_isName.j0, this, h2]
        · have : p c = true := hc.2 (by omega)
          simp only [value_isName.j0, decide_eq_false h2, Bool.false_eq_true, if_false, this, Bool.true_and]
          exact hl
theorem isGreatName (s : ByteArray) : Evt (fun k => value_isName.f k s 65 90) (nameB great (bs s)) := isName_evt s 65 90 great great_iff
theorem isSmallName (s : ByteArray) : Evt (fun k => value_isName.f k s 97 122) (nameB small (bs s)) := isName_evt s 97 122 small small_iff
theorem index_loop (l : List ByteArray) (s : ByteArray) (hb : l.length < 2 ^ 60) : ∀ (d k : Nat) (i : Nat), i ≤ l.length → l.length - i ≤ d → d < k →
    ∃ r, slices_Index_string_string.l0 k l s (l.length : Int) (i : Int) = some r ∧ decide (r ≥ 0) = (l.drop i).any fun x => bs s == bs x := by
  intro d
  induction d with
  | zero =>
    intro k i hi hd hk
    obtain ⟨k, rfl⟩ : ∃ m, k = m + 1 := ⟨k - 1, by omega⟩
    simp only [slices_Index_string_string.l0]
    rw [if_neg (by omega), List.drop_of_length_le (by omega)]
    exact ⟨_, rfl, rfl⟩
  | succ d ih =>
    intro k i hi hd hk
    obtain ⟨k, rfl⟩ : ∃ m, k = m + 1 := ⟨k - 1, by omega⟩
    simp only [slices_Index_string_string.l0]
    by_cases h : i < l.length
    · rw [if_pos (by omega), if_pos (by omega), if_pos (by omega), wrap_up (by omega) (by omega)]
      have hx : rdOf ByteArray.empty l (i : Int) = l[i] := by simp [rdOf, List.getD, h]
      rw [hx, List.drop_eq_getElem_cons h, List.any_cons, toList_bs, toList_bs]
      by_cases he : bs s = bs l[i]
      · rw [if_pos he]
        exact ⟨_, rfl, by simp [he]⟩
      · rw [if_neg he]
        obtain ⟨r, h1, h2⟩ := ih k (i + 1) (by omega) (by omega) (by omega)
        rw [show ((i + 1 : Nat) : Int) = (i : Int) + 1 from by omega] at h1
        exact ⟨r, h1, by rw [h2, show (bs s == bs l[i]) = false by simpa using he, Bool.false_or]⟩
    · rw [if_neg (by omega), List.drop_of_length_le (by omega)]
      exact ⟨_, rfl, rfl⟩
theorem contains_evt (l : List ByteArray) (s : ByteArray) (hb : l.length < 2 ^ 60) : Evt (fun k => slices_Contains_string_string.f k l s) ((l.map bs).contains (bs s)) := by
  refine ⟨l.length + 1, fun k hk => ?_⟩
  show slices_Contains_string_string.f k l s = _
  unfold slices_Contains_string_string.f slices_Index_string_string.f
  obtain ⟨r, h1, h2⟩ := index_loop l s hb l.length k 0 (by omega) (by omega) (by omega)
  rw [show ((0 : Nat) : Int) = 0 from rfl] at h1
  rw [h1, Option.bind_some, h2]
  congr 1
  rw [List.drop_zero]
  rw [List.contains_eq_any_beq, List.any_map]
  rfl
def wordsBA : List ByteArray := [(⟨#[100, 97, 116, 97]⟩ : ByteArray), (⟨#[99, 108, 97, 115, 115]⟩ : ByteArray), (⟨#[105, 110, 115, 116, 97, 110, 99, 101]⟩ : ByteArray), (⟨#[111, 112]⟩ : ByteArray), (⟨#[101, 110, 100]⟩ : ByteArray), (⟨#[119, 104, 101, 114, 101]⟩ : ByteArray), (⟨#[108, 101, 116]⟩ : ByteArray), (⟨#[105, 110]⟩ : ByteArray), (⟨#[102, 114, 101, 101]⟩ : ByteArray), (⟨#[99, 97, 115, 101]⟩ : ByteArray), (⟨#[114, 105, 103, 105, 100]⟩ : ByteArray), (⟨#[111, 102]⟩ : ByteArray), (⟨#[102, 97, 105, 108]⟩ : ByteArray)]
theorem wordsBA_bs : wordsBA.map bs = words := rfl
theorem nameB_low (c : UInt8) (l : List UInt8) : nameB (fun x => x == 97) (97 :: l) = (l.all tailB && decide (l.length ≤ 15)) := by simp [nameB]
theorem isFunction_evt (s : ByteArray) : Evt (fun k => value_isFunction.f k s) (coreB (bs s)) := by
  obtain ⟨k1, h1⟩ := isSmallName s
  obtain ⟨k2, h2⟩ := contains_evt wordsBA s (by decide)
  obtain ⟨k3, h3⟩ := isName_evt ((⟨#[97]⟩ : ByteArray) ++ (s.extract 1 s.size)) 97 97 (fun x => x == 97) (fun c => by rw [beq_iff_eq, ← UInt8.toNat_inj]; simp; omega)
  refine ⟨k1 + k2 + k3 + 1, fun k hk => ?_⟩
  obtain ⟨k, rfl⟩ : ∃ m, k = m + 1 := ⟨k - 1, by omega⟩
  have hz := size_bs s
  have h1 := h1 k (by omega)
  have h2 := h2 k (by omega)
  have h3 := h3 k (by omega)
  simp only at h1 h2 h3
  rw [wordsBA_bs] at h2
  show value_isFunction.f (k + 1) s = _
  unfold value_isFunction.f
  rw [Option.bind_some]
  show (if (s.size : Int) > 0 then (if 0 < (s.size : Int) then value_isFunction.j0 (k + 1) s wordsBA ((bt s 0) == 95) else none) else value_isFunction.j0 (k + 1) s wordsBA false) = _
  have hsm : value_isFunction.j0 (k + 1) s wordsBA false = some (smallB (bs s)) := by
    simp only [value_isFunction.j0, Bool.false_eq_true, if_false, h1, Option.bind_some, smallB]
    cases nameB small (bs s) with
    | false => rfl
    | true => simp [h2]
  cases hb : bs s with
  | nil =>
    rw [hb] at hz
    rw [if_neg (by simp at hz; omega), hsm, hb]
    rfl
  | cons c l =>
    rw [hb] at hz
    simp only [List.length_cons] at hz
    rw [if_pos (by omega), if_pos (by omega), bt_bs s 0 (by omega), hb]
    simp only [Int.toNat_zero, List.getD_cons_zero]
    by_cases hc : (c.toNat : Int) = 95
    · have hc2 : c = 95 := beq_iff_eq.1 ((low_iff c).2 hc)
      subst hc2
      rw [show (((95 : UInt8).toNat : Int) == 95) = true from rfl]
      have hsb : smallB (95 :: l) = false := by simp [smallB, nameB, small]
      simp only [value_isFunction.j0, if_true, coreB, hsb, Bool.false_or]
      have hext : bs ((⟨#[97]⟩ : ByteArray) ++ (s.extract 1 s.size)) = 97 :: l := by
        have : bs (s.extract 1 s.size) = l := by
          have e : bs (s.extract 1 s.size) = (bs s).drop 1 := by
            show (s.extract 1 s.size).data.toList = s.data.toList.drop 1
            rw [ByteArray.data_extract, Array.toList_extract, List.extract_eq_take_drop]
            exact List.take_of_length_le (by rw [List.length_drop, Array.length_toList]; exact Nat.le_refl _)
          rw [e, hb]; rfl
        simp only [bs, ByteArray.data_append, Array.toList_append] at this ⊢
        rw [this]; rfl
      rw [hext, nameB_low 97 l] at h3
      have hxs : (s.extract 1 s.size).size ≤ s.size := by simp
      by_cases h16 : (s.size : Int) ≤ 16
      · by_cases h1' : (s.size : Int) > 1
        · rw [if_pos h1', if_pos h16, if_pos (by omega), if_pos (by omega), h3, Option.bind_some]
          cases l with
          | nil => simp at hz; omega
          | cons d l =>
            simp only [List.length_cons] at hz
            simp only [lowB]
            rw [decide_eq_true (p := (d :: l).length ≤ 15) (by simp; omega), decide_eq_true (p := l.length ≤ 14) (by omega)]
        · rw [if_neg h1']
          cases l with
          | nil => rfl
          | cons d l => simp at hz; omega
      · rw [if_pos (by omega), if_neg h16]
        cases l with
        | nil => rfl
        | cons d l =>
          simp only [List.length_cons] at hz
          simp only [lowB]
          rw [decide_eq_false (p := l.length ≤ 14) (by omega)]; simp
    · rw [show ((c.toNat : Int) == 95) = false from by simpa using hc, hsm, hb]
      have hl : lowB (c :: l) = false := by
        unfold lowB
        split
        · rename_i h; simp at h; exact absurd h.1 (fun e => hc (by rw [e]; rfl))
        · rfl
      simp [coreB, hl]
end Go.Proofs.YtdcdfahhlfeifaaGreatDoor.Q

end
section
namespace Go.Proofs.YtdcdfahhlfeifaaGreatDoor.Q
open Go.RowKit Go.Proofs.YtdcdfahhlfeifaaGreatDoorW.PrintWords Go.Proofs.YtdcdfahhlfeifaaGreatDoorW.PrintLast Go.Proofs.YtdcdfahhlfeifaaGreatDoorW.PrintMore
set_option linter.unusedVariables false
theorem deepF_kids {n : Nat} {v : S38} (h : deepF (n + 1) v = false) : ∀ x ∈ v.f3, deepF n x = false := by
  simp only [deepF, List.any_eq_false] at h
  intro x hx
  simpa using h x hx
theorem rd_T38_at (l : List S38) (i : Nat) (h : i < l.length) : rd_T38 l (i : Int) = l[i] := by simp [rd_T38, List.getD, h]
def CountIs (n : Nat) (c : Nat) (r : Int) : Prop := 1 ≤ r ∧ r ≤ 1 + 300 * n ∧ (c ≤ 300 → r = c) ∧ (300 < c → 300 < r)
theorem count_loop (n : Nat) (hn : n ≤ 1000) (a : Int) (b : ByteArray) (c : Int) (l : List S38) (hl : l.length ≤ 9223372036854775807)
    (ih : ∀ x ∈ l, ∃ r, Evt (fun k => value_count.f k x.f0 x.f1 x.f2 x.f3) r ∧ CountIs n (cntF n x) r) :
    ∀ (d i : Nat) (x3 : Int), i ≤ l.length → l.length - i ≤ d → 1 ≤ x3 → x3 ≤ 300 + (1 + 300 * n) →
      ∃ r, Evt (fun k => value_count.l0 k x3 (i : Int) a b c l) r ∧ x3 ≤ r ∧ r ≤ 300 + (1 + 300 * n) ∧ (x3 + ((l.drop i).map (cntF n)).sum ≤ 300 → r = x3 + ((l.drop i).map (cntF n)).sum) ∧ (300 < x3 + ((l.drop i).map (cntF n)).sum → 300 < r) := by
  intro d
  induction d with
  | zero =>
    intro i x3 hi hd h1 h2
    refine ⟨x3, ?_, ?_⟩
    · refine Evt.congr (f := fun _ => some x3) (Evt.of fun _ => rfl) fun k => ?_
      simp only [value_count.l0]; rw [if_neg (by omega)]
    · rw [List.drop_of_length_le (by omega)]; simp; omega
  | succ d ihd =>
    intro i x3 hi hd h1 h2
    by_cases h : i < l.length
    · by_cases h3 : x3 ≤ 300
      · obtain ⟨t, ht, t1, t2, t3, t4⟩ := ih l[i] (List.getElem_mem h)
        obtain ⟨r, hr, r1, r2, r3, r4⟩ := ihd (i + 1) (x3 + t) (by omega) (by omega) (by omega) (by omega)
        refine ⟨r, ?_, by omega, r2, ?_⟩
        · refine Evt.call (G := fun k t => value_count.l0 k (wrap64 (x3 + t)) (wrap64 ((i : Int) + 1)) a b c l) ht hr (fun k => ?_) fun k => ?_
          · simp only [value_count.l0]
            rw [if_pos (by omega), if_pos h3, if_pos (by omega), rd_T38_at l i h]
          · rw [wrap_up (i := (i : Int)) (by omega) (by omega), show wrap64 (x3 + t) = x3 + t by unfold wrap64; omega, show ((i + 1 : Nat) : Int) = (i : Int) + 1 by omega]
        · rw [List.drop_eq_getElem_cons h, List.map_cons, List.sum_cons]
          constructor
          · intro hs
            have := t3 (by omega)
            rw [this] at r3
            have := r3 (by omega)
            omega
          · intro hs
            by_cases ht3 : cntF n l[i] ≤ 300
            · have := t3 ht3
              rw [this] at r4
              exact r4 (by omega)
            · have := t4 (by omega)
              exact r4 (by omega)
      · refine ⟨x3, ?_, by omega, h2, ?_, ?_⟩
        · refine Evt.congr (f := fun _ => some x3) (Evt.of fun _ => rfl) fun k => ?_
          simp only [value_count.l0]; rw [if_pos (by omega), if_neg h3]
        · intro; omega
        · intro; omega
    · refine ⟨x3, ?_, ?_⟩
      · refine Evt.congr (f := fun _ => some x3) (Evt.of fun _ => rfl) fun k => ?_
        simp only [value_count.l0]; rw [if_neg (by omega)]
      · rw [List.drop_of_length_le (by omega)]; simp; omega
theorem count_evt : ∀ (n : Nat), n ≤ 1000 → ∀ v : S38, deepF n v = false → fitsB v = true → ∃ r, Evt (fun k => value_count.f k v.f0 v.f1 v.f2 v.f3) r ∧ CountIs n (cntF n v) r
  | 0, _, v, h, _ => by simp [deepF] at h
  | n + 1, hn, v, h, hf => by
    obtain ⟨r, hr, r1, r2, r3, r4⟩ := count_loop n (by omega) v.f0 v.f1 v.f2 v.f3 (fitsB_len hf) (fun x hx => count_evt n (by omega) x (deepF_kids h x hx) (fitsB_mem hf hx)) v.f3.length 0 1 (by omega) (by omega) (by omega) (by omega)
    refine ⟨r, Evt.congr hr fun k => by simp only [value_count.f]; rfl, by omega, by omega, ?_, ?_⟩
    · intro hc
      rw [List.drop_zero] at r3
      simp only [cntF] at hc ⊢
      rw [r3 (by omega)]; omega
    · intro hc
      rw [List.drop_zero] at r4
      simp only [cntF] at hc
      exact r4 (by omega)
end Go.Proofs.YtdcdfahhlfeifaaGreatDoor.Q

end
section
namespace Go.Proofs.YtdcdfahhlfeifaaGreatDoor.Q
open Go.RowKit Go.Proofs.YtdcdfahhlfeifaaGreatDoorW.PrintWords Go.Proofs.YtdcdfahhlfeifaaGreatDoorW.PrintLast Go.Proofs.YtdcdfahhlfeifaaGreatDoorW.PrintMore
set_option linter.unusedVariables false
def idx (p : S38 → Bool) : Int → List S38 → Int
  | _, [] => -1
  | i, v :: l => if p v then i else idx p (i + 1) l
theorem idx_any (p : S38 → Bool) : ∀ (l : List S38) (i : Int), 0 ≤ i → decide (0 ≤ idx p i l) = l.any p
  | [], _, _ => by simp [idx]
  | v :: l, i, h => by
    simp only [idx, List.any_cons]
    by_cases hv : p v = true
    · simp [hv, h]
    · simp only [hv]
      simpa using idx_any p l (i + 1) (by omega)
theorem idx_step (p : S38 → Bool) (l : List S38) (i : Int) (h0 : 0 ≤ i) (h : i < l.length) :
    idx p i (l.drop i.toNat) = if p (rd_T38 l i) then i else idx p (i + 1) (l.drop (i + 1).toNat) := by
  have hlt : i.toNat < l.length := by omega
  rw [List.drop_eq_getElem_cons hlt, show (i + 1).toNat = i.toNat + 1 from by omega]
  simp only [idx]
  rw [show rd_T38 l i = l[i.toNat] from by simp [rd_T38, List.getD, hlt]]
theorem rd_mem (l : List S38) (i : Int) (h0 : 0 ≤ i) (h : i < l.length) : rd_T38 l i ∈ l := by
  have hlt : i.toNat < l.length := by omega
  rw [show rd_T38 l i = l[i.toNat] from by simp [rd_T38, List.getD, hlt]]
  exact List.getElem_mem hlt
abbrev val38 (x : S38) (A : Option Addr) (c : Nat) : Value := .agg #[.int .i64 x.f0, .string x.f1, .int .i64 x.f2, .slice A x.f3.length c]
set_option maxHeartbeats 4000000 in
theorem index_calls (g : Nat) (B : Array Value) (p : S38 → Bool) (A : Option Addr) (c : Nat) (l : List S38) (w : World) (eg : ∀ args w, (callFunc g args).run Tryz.prog w = .ok (.enter g args) w) (hr : Kd.C k38 w A l.length l) (hl : l.length ≤ 9223372036854775807)
    (hp : ∀ (W : World) (x : S38) (A3 : Option Addr) (c3 : Nat), x ∈ l → Below w.heap.size w W → Kd.C k38 W A3 x.f3.length x.f3 → x.f3.length ≤ c3 → Calls Tryz.prog g (#[val38 x A3 c3] ++ B) W fun e w' => e = .returned (.bool (p x)) ∧ Below W.heap.size W w') :
    Calls Tryz.prog 86 #[.slice A l.length c, .func (.func g) #[] B] w fun e w' => e = .returned (.int .i64 (idx p 0 l)) ∧ Below w.heap.size w w' := by
  have HR0 := Aside0.mk hr
  have HP := Aside0.mk hp
  have HB := Aside0.mk (Below.refl w.heap.size w)
  clear hr hp
  go_enter Tryz.func86, Tryz.ntmps86
  go_wp2
  go_loopg [5, 8] l.length (fun gg _ s8 wr => ∃ i : Int, s8 = .int .i64 i ∧ Aside0 (0 ≤ i ∧ i ≤ l.length ∧ l.length - i.toNat ≤ gg) ∧ Aside0 (Below w.heap.size w wr) ∧ Aside0 (idx p i (l.drop i.toNat) = idx p 0 l))
  case atStart => exact ⟨0, rfl, ⟨by omega, by omega, by omega⟩, HB, ⟨rfl⟩⟩
  case round =>
    obtain ⟨i, rfl, HI, HB, HD⟩ := hrel
    by_cases hlt : i < (l.length : Int)
    · have c1 : decide (i < (l.length : Int)) = true := decide_eq_true hlt
      have p0 : 0 ≤ i := HI.out.1
      obtain ⟨ad, A3, c3, e0, x0, x1, x2, x3, hl3, hi3⟩ := at_T38 HR0.out i p0 hlt
      cases e0
      replace x0 := (HB.out.cell (World.block_lt_of_cell? w _ x0)).trans x0
      replace x1 := (HB.out.cell (World.block_lt_of_cell? w _ x1)).trans x1
      replace x2 := (HB.out.cell (World.block_lt_of_cell? w _ x2)).trans x2
      replace x3 := (HB.out.cell (World.block_lt_of_cell? w _ x3)).trans x3
      have HS := Aside0.mk (idx_step p l i p0 hlt)
      have HM := Aside0.mk (rd_mem l i p0 hlt)
      have H3 := Aside0.mk hi3
      have H4 := Aside0.mk hl3
      clear hi3 hl3
      have hcall := HP.out wr _ A3 c3 HM.out HB.out (Kd.C_below H3.out HB.out) H4.out
      have q0 : decide (0 ≤ i) = true := decide_eq_true p0
      have hw1 : wrap64 (i + 1) = i + 1 := by unfold wrap64; omega
      have HW := Aside0.mk hw1
      clear hw1
      have HLT := Aside0.mk hlt
      have P0 := Aside0.mk p0
      replace hlt := eq_true hlt
      replace p0 := eq_true p0
      generalize hy : p (rd_T38 l i) = y at hcall
      have HY := Aside0.mk hy
      clear hy
      cases y with
      | true =>
        go_wp2_with (go_at_fn g; refine hcall.mono ?_; rintro e w' ⟨rfl, hb'⟩)
        go_ret
        exact ⟨by show Ending.returned (Value.int .i64 i) = _; rw [← HD.out, HS.out, if_pos HY.out], HB.out.trans (hb'.mono HB.out.size)⟩
      | false =>
        go_wp2_with (go_at_fn g; refine hcall.mono ?_; rintro e w' ⟨rfl, hb'⟩)
        go_roundg (l.length - (i + 1).toNat)
        case measure => have := HI.out; have := HLT.out; have := P0.out; omega
        case rel =>
          exact ⟨i + 1, by rw [HW.out], ⟨by have := P0.out; omega, by have := HLT.out; omega, by omega⟩, ⟨HB.out.trans (hb'.mono HB.out.size)⟩, ⟨by rw [← HD.out, HS.out, if_neg (by rw [HY.out]; simp)]⟩⟩
    · have c1 : decide (i < (l.length : Int)) = false := decide_eq_false hlt
      have HE := Aside0.mk (show idx p 0 l = -1 by rw [← HD.out, List.drop_of_length_le (by have := HI.out; omega)]; rfl)
      go_wp2
      go_ret
      exact ⟨by rw [HE.out]; rfl, HB.out⟩
set_option maxHeartbeats 4000000 in
theorem contains_calls (g : Nat) (B : Array Value) (p : S38 → Bool) (A : Option Addr) (c : Nat) (l : List S38) (w : World) (eg : ∀ args w, (callFunc g args).run Tryz.prog w = .ok (.enter g args) w) (hr : Kd.C k38 w A l.length l) (hl : l.length ≤ 9223372036854775807)
    (hp : ∀ (W : World) (x : S38) (A3 : Option Addr) (c3 : Nat), x ∈ l → Below w.heap.size w W → Kd.C k38 W A3 x.f3.length x.f3 → x.f3.length ≤ c3 → Calls Tryz.prog g (#[val38 x A3 c3] ++ B) W fun e w' => e = .returned (.bool (p x)) ∧ Below W.heap.size W w') :
    Calls Tryz.prog 64 #[.slice A l.length c, .func (.func g) #[] B] w fun e w' => e = .returned (.bool (l.any p)) ∧ Below w.heap.size w w' := by
  have hcall := index_calls g B p A c l w eg hr hl hp
  have HX := Aside0.mk (idx_any p l 0 (by omega))
  clear hr hp eg
  generalize hi : idx p 0 l = i at hcall HX
  have HI := Aside0.mk hi
  clear hi
  generalize hy : l.any p = y at HX ⊢
  have HY := Aside0.mk hy
  clear hy
  go_enter Tryz.func64, Tryz.ntmps64
  go_wp2_with (go_at_call 86; refine hcall.mono ?_; rintro e w' ⟨rfl, hb'⟩)
  go_ret
  exact ⟨by first | rfl | (rw [HX.out]; rfl), hb'⟩
end Go.Proofs.YtdcdfahhlfeifaaGreatDoor.Q

end
section
namespace Go.Proofs.YtdcdfahhlfeifaaGreatDoor.Q
open Go.RowKit Go.Proofs.YtdcdfahhlfeifaaGreatDoorW.PrintWords Go.Proofs.YtdcdfahhlfeifaaGreatDoorW.PrintLast Go.Proofs.YtdcdfahhlfeifaaGreatDoorW.PrintMore
set_option linter.unusedVariables false
theorem types_small (c : UInt8) : types_isSmall.f (c.toNat : Int) = some (small c) := by
  have h := small_iff c
  unfold types_isSmall.f
  by_cases hc : small c = true
  · rw [h] at hc; rw [if_pos hc.1, (small_iff c).2 hc, decide_eq_true hc.2]
  · rw [Bool.not_eq_true] at hc
    rw [hc]
    by_cases h1 : (c.toNat : Int) ≥ 97
    · rw [if_pos h1, decide_eq_false (fun h2 => by rw [h.2 ⟨h1, h2⟩] at hc; cases hc)]
    · rw [if_neg h1]
theorem types_tail (c : UInt8) : types_IsTail.f (c.toNat : Int) = some (tailB c) := by
  have h := tail_iff c
  unfold types_IsTail.f types_IsLetter.f types_IsDigit.f types_isSmall.f
  have h95 : ((c.toNat : Int) == 95) = decide ((c.toNat : Int) = 95) := rfl
  by_cases hc : tailB c = true
  · have hq := h.1 hc
    rw [hc, h95]
    by_cases a1 : (c.toNat : Int) ≥ 97 <;> by_cases a2 : (c.toNat : Int) ≤ 122 <;> by_cases a3 : (c.toNat : Int) ≥ 65 <;> by_cases a4 : (c.toNat : Int) ≤ 90 <;> by_cases a5 : (c.toNat : Int) ≥ 48 <;> by_cases a6 : (c.toNat : Int) ≤ 57 <;> by_cases a7 : (c.toNat : Int) = 95 <;> first | (exfalso; omega) | simp [a1, a2, a3, a4, a5, a6, a7]
  · rw [Bool.not_eq_true] at hc
    have hq : ¬ _ := fun e => by rw [h.2 e] at hc; cases hc
    rw [hc, h95]
    by_cases a1 : (c.toNat : Int) ≥ 97 <;> by_cases a2 : (c.toNat : Int) ≤ 122 <;> by_cases a3 : (c.toNat : Int) ≥ 65 <;> by_cases a4 : (c.toNat : Int) ≤ 90 <;> by_cases a5 : (c.toNat : Int) ≥ 48 <;> by_cases a6 : (c.toNat : Int) ≤ 57 <;> by_cases a7 : (c.toNat : Int) = 95 <;> first | (exfalso; omega) | simp [a1, a2, a3, a4, a5, a6, a7]
theorem small_tail (c : UInt8) (h : small c = true) : tailB c = true := by rw [tail_iff]; rw [small_iff] at h; exact .inl h
def runB (l : List UInt8) : Bool := decide (1 ≤ l.length) && decide (l.length ≤ 16) && l.all tailB
theorem run_evt (s : ByteArray) : Evt (fun k => types_isRun.f k s) (runB (bs s)) := by
  refine ⟨20, fun k hk => ?_⟩
  obtain ⟨k, rfl⟩ : ∃ m, k = m + 1 := ⟨k - 1, by omega⟩
  have hz := size_bs s
  show types_isRun.f (k + 1) s = _
  unfold types_isRun.f runB
  rw [hz]
  by_cases h1 : (s.size : Int) < 1
  · rw [if_pos h1, decide_eq_false (p := 1 ≤ s.size) (by omega)]; simp [types_isRun.j0]
  · rw [if_neg h1, decide_eq_true (p := 1 ≤ s.size) (by omega)]
    by_cases h2 : (s.size : Int) > 16
    · rw [decide_eq_true h2, decide_eq_false (p := s.size ≤ 16) (by omega)]; simp [types_isRun.j0]
    · rw [decide_eq_false h2, decide_eq_true (p := s.size ≤ 16) (by omega)]
      simp only [types_isRun.j0, Bool.false_eq_true, if_false, Bool.true_and]
      have := loop_all (types_isRun.l0 · s) s tailB (fun k i h0 h => by
        show types_isRun.l0 (k + 1) s i = _
        simp only [types_isRun.l0]
        rw [if_pos h, if_pos h0, wrap_up h0 (by omega), bt_bs s i (by omega), types_tail, Option.bind_some]) (fun k i h => by show types_isRun.l0 (k + 1) s i = _; simp only [types_isRun.l0]; rw [if_neg (by omega)]) 17 k 0 (by omega) (by omega) (by omega)
      simpa using this
theorem words_loop (F : Nat → Int → Option Bool) (l : List ByteArray) (s : ByteArray)
    (hstep : ∀ (k i : Nat) (h : i < l.length), F (k + 1) (i : Int) = if bs l[i] = bs s then some false else F k ((i + 1 : Nat) : Int)) (hend : ∀ (k i : Nat), l.length ≤ i → F (k + 1) (i : Int) = some true) :
    ∀ (d k i : Nat), l.length - i ≤ d → d < k → F k (i : Int) = some (!((l.drop i).map bs).contains (bs s))
  | 0, k, i, hd, hk => by
    obtain ⟨k, rfl⟩ : ∃ m, k = m + 1 := ⟨k - 1, by omega⟩
    rw [hend k i (by omega), List.drop_of_length_le (by omega)]; rfl
  | d + 1, k, i, hd, hk => by
    obtain ⟨k, rfl⟩ : ∃ m, k = m + 1 := ⟨k - 1, by omega⟩
    by_cases h : i < l.length
    · rw [hstep k i h, List.drop_eq_getElem_cons h, List.map_cons]
      by_cases he : bs l[i] = bs s
      · rw [if_pos he]; simp [he]
      · rw [if_neg he, words_loop F l s hstep hend d k (i + 1) (by omega) (by omega)]
        congr 2
        rw [List.contains_cons]
        have : (bs s == bs l[i]) = false := by simpa using fun e => he e.symm
        rw [this, Bool.false_or]
    · rw [hend k i (by omega), List.drop_of_length_le (by omega)]; rfl
theorem small_evt (s : ByteArray) : Evt (fun k => types_IsSmall.f k s) (smallB (bs s)) := by
  obtain ⟨k0, h0⟩ := run_evt s
  refine ⟨k0 + 40, fun k hk => ?_⟩
  obtain ⟨k, rfl⟩ : ∃ m, k = m + 1 := ⟨k - 1, by omega⟩
  have hz := size_bs s
  have h0 : types_isRun.f (k + 1) s = some (runB (bs s)) := h0 (k + 1) (by omega)
  show types_IsSmall.f (k + 1) s = _
  unfold types_IsSmall.f
  rw [h0, Option.bind_some]
  have hw : types_IsSmall.l0 k s wordsBA ((wordsBA.length : Nat) : Int) 0 = some (!words.contains (bs s)) := by
    have := words_loop (fun k i => types_IsSmall.l0 k s wordsBA ((wordsBA.length : Nat) : Int) i) wordsBA s (fun k i h => by
      show types_IsSmall.l0 (k + 1) s wordsBA _ (i : Int) = _
      simp only [types_IsSmall.l0]
      have hlen : wordsBA.length = 13 := rfl
      rw [if_pos (by omega), if_pos (by omega), if_pos (by omega), wrap_up (by omega) (by omega), show rdOf ByteArray.empty wordsBA (i : Int) = wordsBA[i] by simp [rdOf, List.getD, h], toList_bs, toList_bs]
      rfl) (fun k i h => by show types_IsSmall.l0 (k + 1) s wordsBA _ (i : Int) = _; simp only [types_IsSmall.l0]; rw [if_neg (by omega)]) 13 k 0 (by decide) (by omega)
    simpa [wordsBA_bs] using this
  cases hb : bs s with
  | nil => simp [runB, types_IsSmall.j0, smallB, nameB]
  | cons c l =>
    rw [hb] at hz
    simp only [List.length_cons] at hz
    rw [hb] at hw
    have hrun : runB (c :: l) = (decide (l.length + 1 ≤ 16) && (tailB c && l.all tailB)) := by simp [runB]
    rw [hrun]
    by_cases h16 : l.length + 1 ≤ 16
    · rw [decide_eq_true h16, Bool.true_and]
      have h15 : decide (l.length ≤ 15) = true := decide_eq_true (by omega)
      cases hr : tailB c && l.all tailB with
      | true =>
        rw [if_pos rfl, if_pos (by omega), bt_bs s 0 (by omega), hb]
        simp only [Int.toNat_zero, List.getD_cons_zero]
        rw [types_small, Option.bind_some]
        rw [Bool.and_eq_true] at hr
        cases hs : small c with
        | true =>
          simp only [Bool.not_true, types_IsSmall.j0, Bool.false_eq_true, if_false, types_words.f, Option.bind_some, smallB, nameB, hs, hr.2, h15, Bool.true_and, Bool.and_true]
          exact hw
        | false => simp [types_IsSmall.j0, smallB, nameB, hs]
      | false =>
        simp only [Bool.false_eq_true, if_false, types_IsSmall.j0, if_true, smallB, nameB, h15, Bool.and_true]
        cases hs : small c with
        | false => simp
        | true =>
          rw [small_tail c hs, Bool.true_and] at hr
          simp [hr]
    · rw [decide_eq_false h16]
      simp only [Bool.false_and, Bool.false_eq_true, if_false, types_IsSmall.j0, if_true, smallB, nameB]
      rw [decide_eq_false (p := l.length ≤ 15) (by omega)]; simp
def coreQ (l : List UInt8) : Bool := smallB l || nameB (fun c => c == 95) l
theorem coreQ_core (l : List UInt8) : (coreQ l && decide (l ≠ [95])) = coreB l := by
  unfold coreQ coreB
  cases hs : smallB l with
  | true =>
    have : l ≠ [95] := by rintro rfl; exact absurd hs (by decide)
    simp [this]
  | false =>
    simp only [Bool.false_or]
    match l with
    | [] => rfl
    | [c] =>
      have : lowB [c] = false := by unfold lowB; split <;> simp_all
      rw [this]
      by_cases hc : c = 95
      · subst hc; rfl
      · simp [nameB, hc]
    | c :: d :: l =>
      by_cases hc : c = 95
      · subst hc
        simp only [nameB, lowB, beq_self_eq_true, Bool.true_and, ne_eq, List.cons.injEq, reduceCtorEq, and_false, not_false_eq_true, decide_true, Bool.and_true]
        congr 1
        exact decide_eq_decide.2 (by simp)
      · have : lowB (c :: d :: l) = false := by
          unfold lowB
          split
          · rename_i h; simp at h; exact absurd h.1 hc
          · rfl
        rw [this]; simp [nameB, hc]
theorem coreName_evt (s : ByteArray) : Evt (fun k => syntax_IsCoreName.f k s) (coreQ (bs s)) := by
  obtain ⟨k0, h0⟩ := small_evt s
  refine ⟨k0 + 40, fun k hk => ?_⟩
  obtain ⟨k, rfl⟩ : ∃ m, k = m + 1 := ⟨k - 1, by omega⟩
  have hz := size_bs s
  have h0 : types_IsSmall.f (k + 1) s = some (smallB (bs s)) := h0 (k + 1) (by omega)
  show syntax_IsCoreName.f (k + 1) s = _
  unfold syntax_IsCoreName.f coreQ
  rw [h0, Option.bind_some]
  cases hs : smallB (bs s) with
  | true => simp
  | false =>
    simp only [Bool.false_eq_true, if_false, Bool.false_or]
    cases hb : bs s with
    | nil =>
      rw [hb] at hz
      rw [if_pos (by simp at hz; omega)]; simp [syntax_IsCoreName.j0, nameB]
    | cons c l =>
      rw [hb] at hz
      simp only [List.length_cons] at hz
      rw [if_neg (by omega)]
      by_cases h16 : (s.size : Int) > 16
      · rw [if_pos h16]; simp only [syntax_IsCoreName.j0, if_true, nameB]; rw [decide_eq_false (p := l.length ≤ 15) (by omega)]; simp
      · rw [if_neg h16, if_pos (by omega), bt_bs s 0 (by omega), hb]
        simp only [Int.toNat_zero, List.getD_cons_zero, nameB]
        rw [decide_eq_true (p := l.length ≤ 15) (by omega), Bool.and_true]
        by_cases hc : (c.toNat : Int) = 95
        · have hc2 : (c == 95) = true := (low_iff c).2 hc
          rw [hc2, show ((c.toNat : Int) != 95) = false by simpa using hc]
          simp only [syntax_IsCoreName.j0, Bool.false_eq_true, if_false, Bool.true_and]
          have := loop_all (syntax_IsCoreName.l0 · s) s tailB (fun k i h0 h => by
            show syntax_IsCoreName.l0 (k + 1) s i = _
            simp only [syntax_IsCoreName.l0]
            rw [if_pos h, if_pos h0, wrap_up h0 (by omega), bt_bs s i (by omega), types_tail, Option.bind_some]) (fun k i h => by show syntax_IsCoreName.l0 (k + 1) s i = _; simp only [syntax_IsCoreName.l0]; rw [if_neg (by omega)]) 17 k 0 (by omega) (by omega) (by omega)
          rw [hb] at this
          have ht : tailB c = true := by rw [tail_iff]; exact .inr (.inr (.inr hc))
          simpa [ht] using this
        · have hc2 : (c == 95) = false := by
            cases h : (c == 95) with
            | false => rfl
            | true => exact absurd ((low_iff c).1 h) hc
          rw [hc2, show ((c.toNat : Int) != 95) = true by simpa using hc]
          simp [syntax_IsCoreName.j0]
end Go.Proofs.YtdcdfahhlfeifaaGreatDoor.Q

end
section
namespace Go.Proofs.YtdcdfahhlfeifaaGreatDoor.Q
open Go.RowKit Go.Proofs.YtdcdfahhlfeifaaGreatDoorW.PrintWords Go.Proofs.YtdcdfahhlfeifaaGreatDoorW.PrintLast Go.Proofs.YtdcdfahhlfeifaaGreatDoorW.PrintMore
set_option linter.unusedVariables false
theorem bs_ext {a b : ByteArray} (h : bs a = bs b) : a = b := by
  cases a; cases b; simp only [bs] at h; congr 1; exact Array.toList_inj.1 h
theorem bs_mk (l : List UInt8) : bs ⟨l.toArray⟩ = l := by simp [bs]
theorem bs_append (a b : ByteArray) : bs (a ++ b) = bs a ++ bs b := by simp [bs, ByteArray.data_append]
theorem size_append' (a b : ByteArray) : (a ++ b).size = a.size + b.size := by rw [← size_bs, bs_append, List.length_append, size_bs, size_bs]
theorem decDigits_len : ∀ (k u : Nat), u < 10 ^ (k + 1) → (Lib.decDigits u).length ≤ k + 1
  | 0, u, h => by
    rw [Lib.decDigits, dif_pos (by simpa using h)]; simp
  | k + 1, u, h => by
    rw [Lib.decDigits]
    split
    · simp
    · have := decDigits_len k (u / 10) (by rw [Nat.pow_succ] at h; omega)
      simp; omega
theorem itoa_len (n : Int) (h0 : -1000000000 ≤ n) (h1 : n ≤ 1000000000) : (Lib.itoa n).length ≤ 11 := by
  unfold Lib.itoa
  split
  · have := decDigits_len 9 n.natAbs (by simp; omega)
    simp; omega
  · have := decDigits_len 9 n.toNat (by simp; omega)
    omega
theorem name_len (p : UInt8 → Bool) (l : List UInt8) (h : nameB p l = true) : l.length ≤ 16 := by
  cases l with
  | nil => simp
  | cons c l =>
    simp only [nameB, Bool.and_eq_true, decide_eq_true_eq] at h
    simp; exact h.2
theorem core_len (l : List UInt8) (h : coreB l = true) : l.length ≤ 16 := by
  simp only [coreB, Bool.or_eq_true, smallB, Bool.and_eq_true] at h
  rcases h with h | h
  · exact name_len _ _ h.1
  · unfold lowB at h
    split at h
    · simp only [Bool.and_eq_true, decide_eq_true_eq] at h; simp; omega
    · cases h
theorem sum_le (f g : S38 → Nat) : ∀ (l : List S38), (∀ x ∈ l, f x ≤ g x) → (l.map f).sum ≤ (l.map g).sum
  | [], _ => by simp
  | v :: l, h => by
    have h1 := h v (by simp)
    have h2 := sum_le f g l fun x hx => h x (by simp [hx])
    simp; omega
theorem flat_len (f : S38 → List UInt8) : ∀ (l : List S38), (l.flatMap f).length = (l.map fun x => (f x).length).sum
  | [] => rfl
  | v :: l => by simp [List.flatMap_cons, flat_len f l]
theorem sum_mul (c : Nat) (f : S38 → Nat) : ∀ (l : List S38), (l.map fun x => c * f x).sum = c * (l.map f).sum
  | [] => by simp
  | v :: l => by simp [sum_mul c f l, Nat.mul_add]
theorem txt_succ (n : Nat) (v : S38) : txt (n + 1) v = if v.f0 = 2 then Lib.itoa v.f2 else if v.f0 = 3 then 95 :: Lib.itoa v.f2 else (if v.f0 = 4 then 39 :: bs v.f1 else bs v.f1) ++ v.f3.flatMap fun k => 32 :: inn n k := rfl
theorem deepF_kids' {n : Nat} {v : S38} (h : deepF (n + 1) v = false) : ∀ x ∈ v.f3, deepF n x = false := by
  simp only [deepF, List.any_eq_false] at h
  intro x hx
  simpa using h x hx
theorem txt_len : ∀ (n : Nat) (v : S38), rightF n v = true → deepF n v = false → (txt n v).length + 3 ≤ 20 * cntF n v
  | 0, v, _, h => by simp [deepF] at h
  | n + 1, v, h, hd => by
    have hk := deepF_kids' hd
    simp only [rightF, Bool.and_eq_true, List.all_eq_true] at h
    obtain ⟨hn, hr⟩ := h
    have hkid : (v.f3.flatMap fun k => 32 :: inn n k).length ≤ 20 * (v.f3.map (cntF n)).sum := by
      rw [flat_len, ← sum_mul]
      refine sum_le _ _ _ fun x hx => ?_
      have := txt_len n x (hr x hx) (hk x hx)
      simp only [inn]
      split <;> simp <;> omega
    rw [txt_succ]
    simp only [cntF]
    unfold nodeB at hn
    by_cases h1 : v.f0 = 1
    · rw [if_pos h1] at hn
      simp only [Bool.and_eq_true] at hn
      have := name_len _ _ hn.1.1
      rw [if_neg (by omega), if_neg (by omega), if_neg (by omega), List.length_append]; omega
    rw [if_neg h1] at hn
    by_cases h4 : v.f0 = 4
    · rw [if_pos h4] at hn
      simp only [Bool.and_eq_true] at hn
      have := core_len _ hn.1.1
      rw [if_neg (by omega), if_neg (by omega), if_pos h4, List.length_append]; simp only [List.length_cons]; omega
    rw [if_neg h4] at hn
    by_cases h2 : v.f0 = 2
    · rw [if_pos h2] at hn
      simp only [Bool.and_eq_true, decide_eq_true_eq] at hn
      have := itoa_len v.f2 hn.1.2 hn.2
      rw [if_pos h2]; omega
    rw [if_neg h2] at hn
    by_cases h3 : v.f0 = 3
    · rw [if_pos h3] at hn
      simp only [Bool.and_eq_true, decide_eq_true_eq] at hn
      have := itoa_len v.f2 (by omega) (by omega)
      rw [if_neg h2, if_pos h3]; simp only [List.length_cons]; omega
    rw [if_neg h3] at hn
    cases hn
end Go.Proofs.YtdcdfahhlfeifaaGreatDoor.Q

end
section
namespace Go.Proofs.YtdcdfahhlfeifaaGreatDoor.Q
open Go.RowKit Go.Proofs.YtdcdfahhlfeifaaGreatDoorW.PrintWords Go.Proofs.YtdcdfahhlfeifaaGreatDoorW.PrintLast Go.Proofs.YtdcdfahhlfeifaaGreatDoorW.PrintMore
set_option linter.unusedVariables false
theorem alloc2_at (w : World) (a b : Obj) : ((w.alloc a).alloc b).heap[w.heap.size + 1]? = some b := by
  have h := blk_new (w.alloc a) b
  rwa [show (w.alloc a).heap.size = w.heap.size + 1 by simp] at h
def DeepAt (n : Nat) : Prop := ∀ (v : S38) (A3 : Option Addr) (c3 : Nat) (w : World), Kd.C k38 w A3 v.f3.length v.f3 → v.f3.length ≤ c3 → fitsB v = true →
    Calls Tryz.prog 43 #[val38 v A3 c3, .int .i64 n] w fun e w' => e = .returned (.bool (deepF n v)) ∧ Below w.heap.size w w'
set_option maxHeartbeats 4000000 in
theorem deep1_calls (n : Nat) (hn : n < 1000) (ih : DeepAt n) (g : Nat) (v : S38) (A3 : Option Addr) (c3 : Nat) (w : World) (hg : w.heap[g]? = some (.cells #[.int .i64 ((n + 1 : Nat) : Int)] 3 (0, 0))) (hr : Kd.C k38 w A3 v.f3.length v.f3) (hc : v.f3.length ≤ c3) (hf : fitsB v = true) :
    Calls Tryz.prog 65 #[val38 v A3 c3, .pointer (some ⟨g, 0, none⟩)] w fun e w' => e = .returned (.bool (deepF n v)) ∧ Below w.heap.size w w' := by
  have hlt : g < w.heap.size := by
    rcases Nat.lt_or_ge g w.heap.size with h' | h'
    · exact h'
    · simp [Array.getElem?_eq_none h'] at hg
  have hgc : w.cell? ⟨g, 0, none⟩ = some (.int .i64 ((n + 1 : Nat) : Int)) := (blk_cell hg 0).trans rfl
  have hne : g ≠ w.heap.size := by omega
  have hcall := fun W (hW : Below w.heap.size w W) => ih v A3 c3 W (Kd.C_below hr hW) hc hf
  have hk := fun W (hW : Below w.heap.size w W) => (hW.cell (p := ⟨g, 0, none⟩) hlt).trans hgc
  clear hr hg ih
  have HI := Aside0.mk hcall
  clear hcall hk
  go_enter Tryz.func65, Tryz.ntmps65
  go_wp2_with (go_at_call 43; refine (HI.out _ (below_alloc (Below.refl _ _) _)).mono ?_; rintro e w' ⟨rfl, hb'⟩)
  go_ret
  exact ⟨rfl, (below_alloc (Below.refl _ _) _).trans (hb'.mono (by simp))⟩
set_option maxHeartbeats 4000000 in
theorem deep_calls : ∀ n, n < 1000 → DeepAt n
  | 0, _ => by
    intro v A3 c3 w hr hc hf
    clear hr hc hf
    go_enter Tryz.func43, Tryz.ntmps43
    go_wp2
    go_ret
    exact ⟨rfl, below_alloc (below_alloc (Below.refl _ _) _) _⟩
  | n + 1, hn => by
    have ih := deep_calls n (by omega)
    intro v A3 c3 w hr hc hf
    have hl := fitsB_len hf
    have eg : ∀ args w, (callFunc 65 args).run Tryz.prog w = .ok (.enter 65 args) w := enters_of Tryz.func65 (by kernel_rfl) rfl
    have hcall : ∀ W : World, W.heap.size = w.heap.size + 2 → Below w.heap.size w W → W.heap[w.heap.size + 1]? = some (.cells #[.int .i64 ((n + 1 : Nat) : Int)] 3 (0, 0)) →
        Calls Tryz.prog 64 #[.slice A3 v.f3.length c3, .func (.func 65) #[] #[.pointer (some ⟨w.heap.size + 1, 0, none⟩)]] W fun e w' => e = .returned (.bool (v.f3.any (deepF n))) ∧ Below W.heap.size W w' := by
      intro W hs hW hg
      refine contains_calls 65 #[.pointer (some ⟨w.heap.size + 1, 0, none⟩)] (deepF n) A3 c3 v.f3 W eg (Kd.C_below hr hW) hl ?_
      intro W' x A c hx hb hr' hc'
      exact deep1_calls n (by omega) ih (w.heap.size + 1) x A c W' ((hb.block _ (by omega)).trans hg) hr' hc' (fitsB_mem hf hx)
    have HC := Aside0.mk hcall
    clear hcall ih hr eg hl hf
    have c1 : decide (((n + 1 : Nat) : Int) < 1) = false := decide_eq_false (by omega)
    have hd : deepF (n + 1) v = v.f3.any (deepF n) := rfl
    have HD := Aside0.mk hd
    clear hd
    go_enter Tryz.func43, Tryz.ntmps43
    go_wp2_with (go_at_call 64; refine (HC.out _ (by simp) (below_alloc (below_alloc (Below.refl _ _) _) _) (alloc2_at _ _ _)).mono ?_; rintro e w' ⟨rfl, hb'⟩)
    go_ret
    exact ⟨by rw [HD.out]; rfl, (below_alloc (below_alloc (Below.refl _ _) _) _).trans (hb'.mono (by simp; omega))⟩
def RightAt (n : Nat) : Prop := ∀ (v : S38) (A3 : Option Addr) (c3 : Nat) (w : World), Kd.C k38 w A3 v.f3.length v.f3 → v.f3.length ≤ c3 → fitsB v = true → deepF n v = false →
    Calls Tryz.prog 45 #[val38 v A3 c3] w fun e w' => e = .returned (.bool (rightF n v)) ∧ Below w.heap.size w w'
set_option maxHeartbeats 4000000 in
theorem right1_calls (n : Nat) (ih : RightAt n) (v : S38) (A3 : Option Addr) (c3 : Nat) (w : World) (hr : Kd.C k38 w A3 v.f3.length v.f3) (hc : v.f3.length ≤ c3) (hf : fitsB v = true) (hd : deepF n v = false) :
    Calls Tryz.prog 68 #[val38 v A3 c3] w fun e w' => e = .returned (.bool (!rightF n v)) ∧ Below w.heap.size w w' := by
  have hcall := fun W (hW : Below w.heap.size w W) => ih v A3 c3 W (Kd.C_below hr hW) hc hf hd
  have HI := Aside0.mk hcall
  clear hcall hr ih hf hd
  generalize rightF n v = y at HI
  go_enter Tryz.func68, Tryz.ntmps68
  go_wp2_with (go_at_call 45; refine (HI.out _ (below_alloc (Below.refl _ _) _)).mono ?_; rintro e w' ⟨rfl, hb'⟩)
  go_ret
  exact ⟨rfl, (below_alloc (Below.refl _ _) _).trans (hb'.mono (by simp))⟩
theorem kids_calls (n : Nat) (ih : RightAt n) (v : S38) (A3 : Option Addr) (c3 : Nat) (w : World) (hr : Kd.C k38 w A3 v.f3.length v.f3) (hf : fitsB v = true) (hd : deepF (n + 1) v = false) :
    Calls Tryz.prog 64 #[.slice A3 v.f3.length c3, .func (.func 68) #[] #[]] w fun e w' => e = .returned (.bool (v.f3.any fun x => !rightF n x)) ∧ Below w.heap.size w w' :=
  contains_calls 68 #[] (fun x => !rightF n x) A3 c3 v.f3 w (enters_of Tryz.func68 (by kernel_rfl) rfl) hr (fitsB_len hf) fun W x A c hx hb hr' hc' => right1_calls n ih x A c W hr' hc' (fitsB_mem hf hx) (deepF_kids hd x hx)
theorem any_not (n : Nat) (v : S38) : (!(v.f3.any fun x => !rightF n x)) = v.f3.all (rightF n) := by
  rw [List.not_any_eq_all_not]; simp
theorem len_8 (v : S38) : decide (v.f3.length ≤ 8) = decide ((v.f3.length : Int) ≤ 8) := decide_eq_decide.2 (by omega)
theorem len_0 (v : S38) : decide (v.f3.length = 0) = decide ((v.f3.length : Int) = 0) := decide_eq_decide.2 (by omega)
set_option maxHeartbeats 8000000 in
set_option maxRecDepth 100000 in
theorem right_con (n : Nat) (ih : RightAt n) (v : S38) (A3 : Option Addr) (c3 : Nat) (w : World) (hr : Kd.C k38 w A3 v.f3.length v.f3) (hc : v.f3.length ≤ c3) (hf : fitsB v = true) (hd : deepF (n + 1) v = false) (h1 : v.f0 = 1) :
    Calls Tryz.prog 45 #[val38 v A3 c3] w fun e w' => e = .returned (.bool (rightF (n + 1) v)) ∧ Below w.heap.size w w' := by
  have hk := fun W (hW : Below w.heap.size w W) => kids_calls n ih v A3 c3 W (Kd.C_below hr hW) hf hd
  have HK := Aside0.mk hk
  have HD := Aside0.mk (show rightF (n + 1) v = (nodeB v && !(v.f3.any fun x => !rightF n x)) by rw [any_not]; rfl)
  clear hk hr hf hd ih hc
  generalize (v.f3.any fun x => !rightF n x) = y at HK HD
  generalize rightF (n + 1) v = z at HD ⊢
  obtain ⟨k1, hn1⟩ := isGreatName v.f1
  have HN1 := Aside0.mk (hn1 k1 (Nat.le_refl _))
  clear hn1
  have HO := Aside0.mk (show nodeB v = (nameB great (bs v.f1) && decide (v.f2 = 0) && decide ((v.f3.length : Int) ≤ 8)) by unfold nodeB; rw [if_pos h1, len_8])
  have e1 : (v.f0 == 1) = true := by simpa using h1
  clear h1
  generalize nameB great (bs v.f1) = q at HN1 HO
  have HE := Aside0.mk (HD.out.trans (by rw [HO.out]))
  clear HD HO
  cases q with
  | true =>
    go_enter Tryz.func45, Tryz.ntmps45
    go_wp2_with (first | (go_at_call 66; refine (value_isName.calls k1 v.f1 65 90 true _ HN1.out).mono ?_; rintro e w' ⟨rfl, ⟨nd, rfl⟩⟩) | (go_at_call 64; refine (HK.out _ (by (repeat (first | (with_reducible first | exact Below.refl _ _ | apply below_alloc | apply pw_below_drewN | apply below_drew1) | (with_reducible assumption))))).mono ?_; rintro e w8 ⟨rfl, hb⟩))
    all_goals
      go_ret
      refine ⟨(congrArg (fun b => Ending.returned (Value.bool b)) (?_ : (_ : Bool) = z)), ?_⟩
      · rw [HE.out]; first | (simp [*]; done) | (simp [*]; omega)
      · first | exact below_step (by (repeat (first | (with_reducible first | exact Below.refl _ _ | apply below_alloc | apply pw_below_drewN | apply below_drew1) | (with_reducible assumption)))) hb | (repeat (first | (with_reducible first | exact Below.refl _ _ | apply below_alloc | apply pw_below_drewN | apply below_drew1) | (with_reducible assumption)))
  | false =>
    go_enter Tryz.func45, Tryz.ntmps45
    go_wp2_with (first | (go_at_call 66; refine (value_isName.calls k1 v.f1 65 90 false _ HN1.out).mono ?_; rintro e w' ⟨rfl, ⟨nd, rfl⟩⟩) | (go_at_call 64; refine (HK.out _ (by (repeat (first | (with_reducible first | exact Below.refl _ _ | apply below_alloc | apply pw_below_drewN | apply below_drew1) | (with_reducible assumption))))).mono ?_; rintro e w8 ⟨rfl, hb⟩))
    all_goals
      go_ret
      refine ⟨(congrArg (fun b => Ending.returned (Value.bool b)) (?_ : (_ : Bool) = z)), ?_⟩
      · rw [HE.out]; first | (simp [*]; done) | (simp [*]; omega)
      · first | exact below_step (by (repeat (first | (with_reducible first | exact Below.refl _ _ | apply below_alloc | apply pw_below_drewN | apply below_drew1) | (with_reducible assumption)))) hb | (repeat (first | (with_reducible first | exact Below.refl _ _ | apply below_alloc | apply pw_below_drewN | apply below_drew1) | (with_reducible assumption)))
set_option maxHeartbeats 8000000 in
set_option maxRecDepth 100000 in
theorem right_part (n : Nat) (ih : RightAt n) (v : S38) (A3 : Option Addr) (c3 : Nat) (w : World) (hr : Kd.C k38 w A3 v.f3.length v.f3) (hc : v.f3.length ≤ c3) (hf : fitsB v = true) (hd : deepF (n + 1) v = false) (h1 : v.f0 = 4) :
    Calls Tryz.prog 45 #[val38 v A3 c3] w fun e w' => e = .returned (.bool (rightF (n + 1) v)) ∧ Below w.heap.size w w' := by
  have hk := fun W (hW : Below w.heap.size w W) => kids_calls n ih v A3 c3 W (Kd.C_below hr hW) hf hd
  have HK := Aside0.mk hk
  have HD := Aside0.mk (show rightF (n + 1) v = (nodeB v && !(v.f3.any fun x => !rightF n x)) by rw [any_not]; rfl)
  clear hk hr hf hd ih hc
  generalize (v.f3.any fun x => !rightF n x) = y at HK HD
  generalize rightF (n + 1) v = z at HD ⊢
  obtain ⟨k1, hn1⟩ := isFunction_evt v.f1
  have HN1 := Aside0.mk (hn1 k1 (Nat.le_refl _))
  clear hn1
  have HO := Aside0.mk (show nodeB v = (coreB (bs v.f1) && decide (v.f2 = 0) && decide ((v.f3.length : Int) ≤ 8)) by unfold nodeB; rw [if_neg (by omega), if_pos h1, len_8])
  have e1 : (v.f0 == 1) = false := by rw [h1]; rfl
  have e2 : (v.f0 == 4) = true := by simpa using h1
  clear h1
  generalize coreB (bs v.f1) = q at HN1 HO
  have HE := Aside0.mk (HD.out.trans (by rw [HO.out]))
  clear HD HO
  cases q with
  | true =>
    go_enter Tryz.func45, Tryz.ntmps45
    go_wp2_with (first | (go_at_call 67; refine (value_isFunction.calls k1 v.f1 true _ HN1.out).mono ?_; rintro e w7 ⟨rfl, hb7⟩; have BK := Aside0.mk (blk_below (g := w.heap.size) (blk_new w _) hb7); have m0 : w7.cell? ⟨w.heap.size, 0, none⟩ = some (.int .i64 v.f0) := (blk_cell BK.out 0).trans rfl; have m1 : w7.cell? ⟨w.heap.size, 1, none⟩ = some (.string v.f1) := (blk_cell BK.out 1).trans rfl; have m2 : w7.cell? ⟨w.heap.size, 2, none⟩ = some (.int .i64 v.f2) := (blk_cell BK.out 2).trans rfl; have m3 : w7.cell? ⟨w.heap.size, 3, none⟩ = some (.slice A3 v.f3.length c3) := (blk_cell BK.out 3).trans rfl; have HB := below_step (below_alloc (Below.refl w.heap.size w) _) hb7; clear hb7) | (go_at_call 64; refine (HK.out _ (by (repeat (first | (with_reducible first | exact Below.refl _ _ | apply below_alloc | apply pw_below_drewN | apply below_drew1) | (with_reducible assumption))))).mono ?_; rintro e w8 ⟨rfl, hb⟩))
    all_goals
      go_ret
      refine ⟨(congrArg (fun b => Ending.returned (Value.bool b)) (?_ : (_ : Bool) = z)), ?_⟩
      · rw [HE.out]; first | (simp [*]; done) | (simp [*]; omega)
      · first | exact below_step (by (repeat (first | (with_reducible first | exact Below.refl _ _ | apply below_alloc | apply pw_below_drewN | apply below_drew1) | (with_reducible assumption)))) hb | (repeat (first | (with_reducible first | exact Below.refl _ _ | apply below_alloc | apply pw_below_drewN | apply below_drew1) | (with_reducible assumption)))
  | false =>
    go_enter Tryz.func45, Tryz.ntmps45
    go_wp2_with (first | (go_at_call 67; refine (value_isFunction.calls k1 v.f1 false _ HN1.out).mono ?_; rintro e w7 ⟨rfl, hb7⟩; have BK := Aside0.mk (blk_below (g := w.heap.size) (blk_new w _) hb7); have m0 : w7.cell? ⟨w.heap.size, 0, none⟩ = some (.int .i64 v.f0) := (blk_cell BK.out 0).trans rfl; have m1 : w7.cell? ⟨w.heap.size, 1, none⟩ = some (.string v.f1) := (blk_cell BK.out 1).trans rfl; have m2 : w7.cell? ⟨w.heap.size, 2, none⟩ = some (.int .i64 v.f2) := (blk_cell BK.out 2).trans rfl; have m3 : w7.cell? ⟨w.heap.size, 3, none⟩ = some (.slice A3 v.f3.length c3) := (blk_cell BK.out 3).trans rfl; have HB := below_step (below_alloc (Below.refl w.heap.size w) _) hb7; clear hb7) | (go_at_call 64; refine (HK.out _ (by (repeat (first | (with_reducible first | exact Below.refl _ _ | apply below_alloc | apply pw_below_drewN | apply below_drew1) | (with_reducible assumption))))).mono ?_; rintro e w8 ⟨rfl, hb⟩))
    all_goals
      go_ret
      refine ⟨(congrArg (fun b => Ending.returned (Value.bool b)) (?_ : (_ : Bool) = z)), ?_⟩
      · rw [HE.out]; first | (simp [*]; done) | (simp [*]; omega)
      · first | exact below_step (by (repeat (first | (with_reducible first | exact Below.refl _ _ | apply below_alloc | apply pw_below_drewN | apply below_drew1) | (with_reducible assumption)))) hb | (repeat (first | (with_reducible first | exact Below.refl _ _ | apply below_alloc | apply pw_below_drewN | apply below_drew1) | (with_reducible assumption)))
set_option maxHeartbeats 8000000 in
set_option maxRecDepth 100000 in
theorem right_int (n : Nat) (ih : RightAt n) (v : S38) (A3 : Option Addr) (c3 : Nat) (w : World) (hr : Kd.C k38 w A3 v.f3.length v.f3) (hc : v.f3.length ≤ c3) (hf : fitsB v = true) (hd : deepF (n + 1) v = false) (h1 : v.f0 = 2) :
    Calls Tryz.prog 45 #[val38 v A3 c3] w fun e w' => e = .returned (.bool (rightF (n + 1) v)) ∧ Below w.heap.size w w' := by
  have hk := fun W (hW : Below w.heap.size w W) => kids_calls n ih v A3 c3 W (Kd.C_below hr hW) hf hd
  have HK := Aside0.mk hk
  have HD := Aside0.mk (show rightF (n + 1) v = (nodeB v && !(v.f3.any fun x => !rightF n x)) by rw [any_not]; rfl)
  clear hk hr hf hd ih hc
  generalize (v.f3.any fun x => !rightF n x) = y at HK HD
  generalize rightF (n + 1) v = z at HD ⊢
  have HO := Aside0.mk (show nodeB v = (decide (bs v.f1 = []) && decide ((v.f3.length : Int) = 0) && decide (-1000000000 ≤ v.f2) && decide (v.f2 ≤ 1000000000)) by unfold nodeB; rw [if_neg (by omega), if_neg (by omega), if_pos h1, len_0])
  have HS := Aside0.mk (toList_bs v.f1)
  have e1 : (v.f0 == 1) = false := by rw [h1]; rfl
  have e2 : (v.f0 == 4) = false := by rw [h1]; rfl
  have e3 : (v.f0 == 2) = true := by rw [h1]; rfl
  clear h1
  have HE := Aside0.mk (HD.out.trans (by rw [HO.out, ← HS.out]))
  clear HD HO HS
  · go_enter Tryz.func45, Tryz.ntmps45
    go_wp2_with (first | (go_at_call 64; refine (HK.out _ (by (repeat (first | (with_reducible first | exact Below.refl _ _ | apply below_alloc | apply pw_below_drewN | apply below_drew1) | (with_reducible assumption))))).mono ?_; rintro e w8 ⟨rfl, hb⟩) | (go_at_call 64; have hk2 := HK.out; simp only [(by assumption : v.f3 = []), List.length_nil] at hk2; refine (hk2 _ (by (repeat (first | (with_reducible first | exact Below.refl _ _ | apply below_alloc | apply pw_below_drewN | apply below_drew1) | (with_reducible assumption))))).mono ?_; rintro e w8 ⟨rfl, hb⟩))
    all_goals
      go_ret
      refine ⟨(congrArg (fun b => Ending.returned (Value.bool b)) (?_ : (_ : Bool) = z)), ?_⟩
      · rw [HE.out]; first | (simp [*]; done) | (simp [*]; omega)
      · first | exact below_step (by (repeat (first | (with_reducible first | exact Below.refl _ _ | apply below_alloc | apply pw_below_drewN | apply below_drew1) | (with_reducible assumption)))) hb | (repeat (first | (with_reducible first | exact Below.refl _ _ | apply below_alloc | apply pw_below_drewN | apply below_drew1) | (with_reducible assumption)))
set_option maxHeartbeats 8000000 in
set_option maxRecDepth 100000 in
theorem right_var (n : Nat) (ih : RightAt n) (v : S38) (A3 : Option Addr) (c3 : Nat) (w : World) (hr : Kd.C k38 w A3 v.f3.length v.f3) (hc : v.f3.length ≤ c3) (hf : fitsB v = true) (hd : deepF (n + 1) v = false) (h1 : v.f0 = 3) :
    Calls Tryz.prog 45 #[val38 v A3 c3] w fun e w' => e = .returned (.bool (rightF (n + 1) v)) ∧ Below w.heap.size w w' := by
  have hk := fun W (hW : Below w.heap.size w W) => kids_calls n ih v A3 c3 W (Kd.C_below hr hW) hf hd
  have HK := Aside0.mk hk
  have HD := Aside0.mk (show rightF (n + 1) v = (nodeB v && !(v.f3.any fun x => !rightF n x)) by rw [any_not]; rfl)
  clear hk hr hf hd ih hc
  generalize (v.f3.any fun x => !rightF n x) = y at HK HD
  generalize rightF (n + 1) v = z at HD ⊢
  have HO := Aside0.mk (show nodeB v = (decide (bs v.f1 = []) && decide ((v.f3.length : Int) = 0) && decide (0 ≤ v.f2) && decide (v.f2 ≤ 300)) by unfold nodeB; rw [if_neg (by omega), if_neg (by omega), if_neg (by omega), if_pos h1, len_0])
  have HS := Aside0.mk (toList_bs v.f1)
  have e1 : (v.f0 == 1) = false := by rw [h1]; rfl
  have e2 : (v.f0 == 4) = false := by rw [h1]; rfl
  have e3 : (v.f0 == 2) = false := by rw [h1]; rfl
  have e4 : (v.f0 == 3) = true := by rw [h1]; rfl
  clear h1
  have HE := Aside0.mk (HD.out.trans (by rw [HO.out, ← HS.out]))
  clear HD HO HS
  · go_enter Tryz.func45, Tryz.ntmps45
    go_wp2_with (first | (go_at_call 64; refine (HK.out _ (by (repeat (first | (with_reducible first | exact Below.refl _ _ | apply below_alloc | apply pw_below_drewN | apply below_drew1) | (with_reducible assumption))))).mono ?_; rintro e w8 ⟨rfl, hb⟩) | (go_at_call 64; have hk2 := HK.out; simp only [(by assumption : v.f3 = []), List.length_nil] at hk2; refine (hk2 _ (by (repeat (first | (with_reducible first | exact Below.refl _ _ | apply below_alloc | apply pw_below_drewN | apply below_drew1) | (with_reducible assumption))))).mono ?_; rintro e w8 ⟨rfl, hb⟩))
    all_goals
      go_ret
      refine ⟨(congrArg (fun b => Ending.returned (Value.bool b)) (?_ : (_ : Bool) = z)), ?_⟩
      · rw [HE.out]; first | (simp [*]; done) | (simp [*]; omega)
      · first | exact below_step (by (repeat (first | (with_reducible first | exact Below.refl _ _ | apply below_alloc | apply pw_below_drewN | apply below_drew1) | (with_reducible assumption)))) hb | (repeat (first | (with_reducible first | exact Below.refl _ _ | apply below_alloc | apply pw_below_drewN | apply below_drew1) | (with_reducible assumption)))
set_option maxHeartbeats 8000000 in
set_option maxRecDepth 100000 in
theorem right_other (n : Nat) (ih : RightAt n) (v : S38) (A3 : Option Addr) (c3 : Nat) (w : World) (hr : Kd.C k38 w A3 v.f3.length v.f3) (hc : v.f3.length ≤ c3) (hf : fitsB v = true) (hd : deepF (n + 1) v = false) (h1 : v.f0 ≠ 1) (h2 : v.f0 ≠ 4) (h3 : v.f0 ≠ 2) (h4 : v.f0 ≠ 3) :
    Calls Tryz.prog 45 #[val38 v A3 c3] w fun e w' => e = .returned (.bool (rightF (n + 1) v)) ∧ Below w.heap.size w w' := by
  have hk := fun W (hW : Below w.heap.size w W) => kids_calls n ih v A3 c3 W (Kd.C_below hr hW) hf hd
  have HK := Aside0.mk hk
  have HD := Aside0.mk (show rightF (n + 1) v = (nodeB v && !(v.f3.any fun x => !rightF n x)) by rw [any_not]; rfl)
  clear hk hr hf hd ih hc
  generalize (v.f3.any fun x => !rightF n x) = y at HK HD
  generalize rightF (n + 1) v = z at HD ⊢
  have HO := Aside0.mk (show nodeB v = false by simp [nodeB, h1, h2, h3, h4])
  have e1 : (v.f0 == 1) = false := by simpa using h1
  have e2 : (v.f0 == 4) = false := by simpa using h2
  have e3 : (v.f0 == 2) = false := by simpa using h3
  have e4 : (v.f0 == 3) = false := by simpa using h4
  clear h1 h2 h3 h4
  have HE := Aside0.mk (HD.out.trans (by rw [HO.out]))
  clear HD HO
  · go_enter Tryz.func45, Tryz.ntmps45
    go_wp2_with (go_at_call 64; refine (HK.out _ (by (repeat (first | (with_reducible first | exact Below.refl _ _ | apply below_alloc | apply pw_below_drewN | apply below_drew1) | (with_reducible assumption))))).mono ?_; rintro e w8 ⟨rfl, hb⟩)
    all_goals
      go_ret
      refine ⟨(congrArg (fun b => Ending.returned (Value.bool b)) (?_ : (_ : Bool) = z)), ?_⟩
      · rw [HE.out]; first | (simp [*]; done) | (simp [*]; omega)
      · first | exact below_step (by (repeat (first | (with_reducible first | exact Below.refl _ _ | apply below_alloc | apply pw_below_drewN | apply below_drew1) | (with_reducible assumption)))) hb | (repeat (first | (with_reducible first | exact Below.refl _ _ | apply below_alloc | apply pw_below_drewN | apply below_drew1) | (with_reducible assumption)))
theorem right_calls : ∀ n, RightAt n
  | 0 => fun v A3 c3 w _ _ _ hd => by simp [deepF] at hd
  | n + 1 => fun v A3 c3 w hr hc hf hd => by
    have ih := right_calls n
    by_cases h1 : v.f0 = 1
    · exact right_con n ih v A3 c3 w hr hc hf hd h1
    by_cases h4 : v.f0 = 4
    · exact right_part n ih v A3 c3 w hr hc hf hd h4
    by_cases h2 : v.f0 = 2
    · exact right_int n ih v A3 c3 w hr hc hf hd h2
    by_cases h3 : v.f0 = 3
    · exact right_var n ih v A3 c3 w hr hc hf hd h3
    exact right_other n ih v A3 c3 w hr hc hf hd h1 h4 h2 h3
end Go.Proofs.YtdcdfahhlfeifaaGreatDoor.Q

end
section
namespace Go.Proofs.YtdcdfahhlfeifaaGreatDoor.Q
open Go.RowKit Go.Proofs.YtdcdfahhlfeifaaGreatDoorW.PrintWords Go.Proofs.YtdcdfahhlfeifaaGreatDoorW.PrintLast Go.Proofs.YtdcdfahhlfeifaaGreatDoorW.PrintMore
set_option linter.unusedVariables false
set_option maxHeartbeats 8000000 in
set_option maxRecDepth 100000 in
theorem valid_calls (v : S38) (A3 : Option Addr) (c3 : Nat) (w : World) (hr : Kd.C k38 w A3 v.f3.length v.f3) (hc : v.f3.length ≤ c3) :
    Calls Tryz.prog 27 #[val38 v A3 c3] w fun e w' => e = .returned (.int .i64 (validF v)) ∧ Below w.heap.size w w' := by
  have hf : fitsB v = true := fitsB_mk (C_len hr) (fits_of_C w _ _ (Nat.le_refl _) A3 hr)
  have HDe := Aside0.mk (fun W (hW : Below w.heap.size w W) => deep_calls 40 (by omega) v A3 c3 W (Kd.C_below hr hW) hc hf)
  cases hd : deepF 40 v with
  | true =>
    have HV := Aside0.mk (show validF v = 3 by simp [validF, hd])
    rw [hd] at HDe
    clear hd hr hc hf
    go_enter Tryz.func27, Tryz.ntmps27
    go_wp2_with (go_at_call 43; refine (HDe.out _ (by (repeat (first | (with_reducible first | exact Below.refl _ _ | apply below_alloc | apply pw_below_drewN | apply below_drew1) | (with_reducible assumption))))).mono ?_; rintro e w7 ⟨rfl, hb7⟩)
    go_ret
    exact ⟨by rw [HV.out]; rfl, below_step (by (repeat (first | (with_reducible first | exact Below.refl _ _ | apply below_alloc | apply pw_below_drewN | apply below_drew1) | (with_reducible assumption)))) hb7⟩
  | false =>
    have HRi := Aside0.mk (fun W (hW : Below w.heap.size w W) => right_calls 40 v A3 c3 W (Kd.C_below hr hW) hc hf hd)
    obtain ⟨r, ⟨k, hk⟩, hr1, hr2, hr3, hr4⟩ := count_evt 40 (by omega) v hd hf
    have hk' := hk k (Nat.le_refl _)
    have HCo := Aside0.mk (fun W (hW : Below w.heap.size w W) => value_count.calls k v.f0 v.f1 v.f2 A3 c3 v.f3 r W (Kd.C_below hr hW) hc hk')
    have HV := Aside0.mk (show validF v = if 300 < r then 3 else if rightF 40 v then 0 else 1 by
      simp only [validF, hd, Bool.false_eq_true, if_false]
      by_cases h : 300 < cntF 40 v
      · rw [if_pos h, if_pos (show 300 < r from hr4 h)]
      · rw [if_neg h, if_neg (show ¬ 300 < r by have := hr3 (by omega); omega)])
    rw [hd] at HDe
    clear hd hr hc hf hk hk' hr1 hr2 hr3 hr4
    generalize rightF 40 v = y at HRi HV
    have HV' := HV.out
    clear HV
    generalize validF v = z at HV' ⊢
    by_cases h3 : 300 < r
    · rw [if_pos h3] at HV'
      subst HV'
      have e1 : decide (300 < r) = true := decide_eq_true h3
      clear h3
      go_enter Tryz.func27, Tryz.ntmps27
      go_wp2_with (go_at_call 43; refine (HDe.out _ (by (repeat (first | (with_reducible first | exact Below.refl _ _ | apply below_alloc | apply pw_below_drewN | apply below_drew1) | (with_reducible assumption))))).mono ?_; rintro e w7 ⟨rfl, hb7⟩; have BK := Aside0.mk (blk_below (g := w.heap.size) (blk_new w _) hb7); have m0 : w7.cell? ⟨w.heap.size, 0, none⟩ = some (.int .i64 v.f0) := (blk_cell BK.out 0).trans rfl; have m1 : w7.cell? ⟨w.heap.size, 1, none⟩ = some (.string v.f1) := (blk_cell BK.out 1).trans rfl; have m2 : w7.cell? ⟨w.heap.size, 2, none⟩ = some (.int .i64 v.f2) := (blk_cell BK.out 2).trans rfl; have m3 : w7.cell? ⟨w.heap.size, 3, none⟩ = some (.slice A3 v.f3.length c3) := (blk_cell BK.out 3).trans rfl; have HB := below_step (below_alloc (Below.refl w.heap.size w) _) hb7; clear hb7)
      go_wp2_with (go_at_call 44; refine (HCo.out _ (by (repeat (first | (with_reducible first | exact Below.refl _ _ | apply below_alloc | apply pw_below_drewN | apply below_drew1) | (with_reducible assumption))))).mono ?_; rintro e w8 ⟨rfl, hb8⟩; clear m0 m1 m2 m3; have HB8 := below_step HB hb8)
      go_ret
      exact ⟨rfl, HB8⟩
    · rw [if_neg h3] at HV'
      have e1 : decide (300 < r) = false := decide_eq_false h3
      clear h3
      cases y with
      | true =>
        subst HV'
        go_enter Tryz.func27, Tryz.ntmps27
        go_wp2_with (go_at_call 43; refine (HDe.out _ (by (repeat (first | (with_reducible first | exact Below.refl _ _ | apply below_alloc | apply pw_below_drewN | apply below_drew1) | (with_reducible assumption))))).mono ?_; rintro e w7 ⟨rfl, hb7⟩; have BK := Aside0.mk (blk_below (g := w.heap.size) (blk_new w _) hb7); have m0 : w7.cell? ⟨w.heap.size, 0, none⟩ = some (.int .i64 v.f0) := (blk_cell BK.out 0).trans rfl; have m1 : w7.cell? ⟨w.heap.size, 1, none⟩ = some (.string v.f1) := (blk_cell BK.out 1).trans rfl; have m2 : w7.cell? ⟨w.heap.size, 2, none⟩ = some (.int .i64 v.f2) := (blk_cell BK.out 2).trans rfl; have m3 : w7.cell? ⟨w.heap.size, 3, none⟩ = some (.slice A3 v.f3.length c3) := (blk_cell BK.out 3).trans rfl; have HB := below_step (below_alloc (Below.refl w.heap.size w) _) hb7; clear hb7)
        go_wp2_with (go_at_call 44; refine (HCo.out _ (by (repeat (first | (with_reducible first | exact Below.refl _ _ | apply below_alloc | apply pw_below_drewN | apply below_drew1) | (with_reducible assumption))))).mono ?_; rintro e w8 ⟨rfl, hb8⟩; clear m0 m1 m2 m3; have BK8 := Aside0.mk (blk_below (g := w.heap.size) BK.out hb8); have n0 : w8.cell? ⟨w.heap.size, 0, none⟩ = some (.int .i64 v.f0) := (blk_cell BK8.out 0).trans rfl; have n1 : w8.cell? ⟨w.heap.size, 1, none⟩ = some (.string v.f1) := (blk_cell BK8.out 1).trans rfl; have n2 : w8.cell? ⟨w.heap.size, 2, none⟩ = some (.int .i64 v.f2) := (blk_cell BK8.out 2).trans rfl; have n3 : w8.cell? ⟨w.heap.size, 3, none⟩ = some (.slice A3 v.f3.length c3) := (blk_cell BK8.out 3).trans rfl; have HB8 := below_step HB hb8; clear hb8)
        go_wp2_with (go_at_call 45; refine (HRi.out _ (by (repeat (first | (with_reducible first | exact Below.refl _ _ | apply below_alloc | apply pw_below_drewN | apply below_drew1) | (with_reducible assumption))))).mono ?_; rintro e w9 ⟨rfl, hb9⟩; clear n0 n1 n2 n3; have HB9 := below_step HB8 hb9; clear hb9)
        go_ret
        exact ⟨rfl, HB9⟩
      | false =>
        subst HV'
        go_enter Tryz.func27, Tryz.ntmps27
        go_wp2_with (go_at_call 43; refine (HDe.out _ (by (repeat (first | (with_reducible first | exact Below.refl _ _ | apply below_alloc | apply pw_below_drewN | apply below_drew1) | (with_reducible assumption))))).mono ?_; rintro e w7 ⟨rfl, hb7⟩; have BK := Aside0.mk (blk_below (g := w.heap.size) (blk_new w _) hb7); have m0 : w7.cell? ⟨w.heap.size, 0, none⟩ = some (.int .i64 v.f0) := (blk_cell BK.out 0).trans rfl; have m1 : w7.cell? ⟨w.heap.size, 1, none⟩ = some (.string v.f1) := (blk_cell BK.out 1).trans rfl; have m2 : w7.cell? ⟨w.heap.size, 2, none⟩ = some (.int .i64 v.f2) := (blk_cell BK.out 2).trans rfl; have m3 : w7.cell? ⟨w.heap.size, 3, none⟩ = some (.slice A3 v.f3.length c3) := (blk_cell BK.out 3).trans rfl; have HB := below_step (below_alloc (Below.refl w.heap.size w) _) hb7; clear hb7)
        go_wp2_with (go_at_call 44; refine (HCo.out _ (by (repeat (first | (with_reducible first | exact Below.refl _ _ | apply below_alloc | apply pw_below_drewN | apply below_drew1) | (with_reducible assumption))))).mono ?_; rintro e w8 ⟨rfl, hb8⟩; clear m0 m1 m2 m3; have BK8 := Aside0.mk (blk_below (g := w.heap.size) BK.out hb8); have n0 : w8.cell? ⟨w.heap.size, 0, none⟩ = some (.int .i64 v.f0) := (blk_cell BK8.out 0).trans rfl; have n1 : w8.cell? ⟨w.heap.size, 1, none⟩ = some (.string v.f1) := (blk_cell BK8.out 1).trans rfl; have n2 : w8.cell? ⟨w.heap.size, 2, none⟩ = some (.int .i64 v.f2) := (blk_cell BK8.out 2).trans rfl; have n3 : w8.cell? ⟨w.heap.size, 3, none⟩ = some (.slice A3 v.f3.length c3) := (blk_cell BK8.out 3).trans rfl; have HB8 := below_step HB hb8; clear hb8)
        go_wp2_with (go_at_call 45; refine (HRi.out _ (by (repeat (first | (with_reducible first | exact Below.refl _ _ | apply below_alloc | apply pw_below_drewN | apply below_drew1) | (with_reducible assumption))))).mono ?_; rintro e w9 ⟨rfl, hb9⟩; clear n0 n1 n2 n3; have HB9 := below_step HB8 hb9; clear hb9)
        go_ret
        exact ⟨rfl, HB9⟩
end Go.Proofs.YtdcdfahhlfeifaaGreatDoor.Q

end
section
namespace Go.Proofs.YtdcdfahhlfeifaaGreatDoor.Q
open Go.RowKit Go.Proofs.YtdcdfahhlfeifaaGreatDoorW.PrintWords Go.Proofs.YtdcdfahhlfeifaaGreatDoorW.PrintLast Go.Proofs.YtdcdfahhlfeifaaGreatDoorW.PrintMore
set_option linter.unusedVariables false
def dR (w : World) : Kd S38 where
  sz := 4
  E := []
  K := fun _ x cs => k38.K w x cs
  M := fun _ _ _ x cs => k38.K w x cs
  K_len := fun h => k38.K_len h
  K_one := fun h => k38.K_one h
  K_below := fun _ h => h
  K_of_M := fun h => h
  M_mono := fun _ h => h
  M_bound := fun h => h
  M_move := fun _ h => h
  M_lower := fun _ h => h
theorem info38 : (Tryz.prog.info? 38).map (fun i => (i.zero, i.size, i.bytes)) = some (some (.agg #[.int .i64 0, .string ⟨#[]⟩, .int .i64 0, .slice none 0 0]), 4, 56) := by kernel_rfl
theorem dR_C {w W : World} {A : Option Addr} {n : Nat} {l : List S38} (h : Kd.C k38 w A n l) (hb : Below w.heap.size w W) : Kd.C (dR w) W A n l :=
  ReadsRow.imp_ h hb (fun _ _ hp => hp)
theorem lit_reads {w W : World} {g : Nat} {x : S38} {A : Option Addr} {c : Nat} (hc : Kd.C k38 w A x.f3.length x.f3) (hl : x.f3.length ≤ c)
    (h0 : W.cell? ⟨g, 0, none⟩ = some (.int .i64 x.f0)) (h1 : W.cell? ⟨g, 1, none⟩ = some (.string x.f1)) (h2 : W.cell? ⟨g, 2, none⟩ = some (.int .i64 x.f2)) (h3 : W.cell? ⟨g, 3, none⟩ = some (.slice A x.f3.length c)) :
    ReadsRow (fun x cs => k38.K w x cs) 4 W (some ⟨g, 0, none⟩) 1 [x] := by
  refine ⟨rfl, by decide, fun _ => ⟨_, rfl, fun j p hp => ?_⟩⟩
  match j, hp with
  | 0, hp =>
    simp at hp; subst hp
    refine ⟨_, rfl, k38_mk w x hl hc, fun i u hu => ?_⟩
    match i, hu with
    | 0, hu => simp at hu; subst hu; exact h0
    | 1, hu => simp at hu; subst hu; exact h1
    | 2, hu => simp at hu; subst hu; exact h2
    | 3, hu => simp at hu; subst hu; exact h3
    | i + 4, hu => simp at hu
end Go.Proofs.YtdcdfahhlfeifaaGreatDoor.Q

end
section
namespace Go.Proofs.YtdcdfahhlfeifaaGreatDoor.Q
open Go.RowKit Go.Proofs.YtdcdfahhlfeifaaGreatDoorW.PrintWords Go.Proofs.YtdcdfahhlfeifaaGreatDoorW.PrintLast Go.Proofs.YtdcdfahhlfeifaaGreatDoorW.PrintMore
set_option linter.unusedVariables false
theorem rd_T40_at (l : List S40) (i : Int) (h0 : 0 ≤ i) (h : i < l.length) : ∃ h : i.toNat < l.length, rd_T40 l i = l[i.toNat] :=
  ⟨by omega, by have : i.toNat < l.length := by omega
                simp [rd_T40, List.getD, this]⟩
theorem take_all (p : S40 → Bool) (l : List S40) (i : Int) (h0 : 0 ≤ i) (h : i < l.length) : (l.take (i + 1).toNat).all p = ((l.take i.toNat).all p && p (rd_T40 l i)) := by
  obtain ⟨hi, e⟩ := rd_T40_at l i h0 h
  rw [show (i + 1).toNat = i.toNat + 1 by omega, List.take_succ_eq_append_getElem hi, List.all_append, e]; simp
theorem all_false (p : S40 → Bool) (l : List S40) (i : Int) (h0 : 0 ≤ i) (h : i < l.length) (hp : p (rd_T40 l i) = false) : l.all p = false := by
  obtain ⟨hi, e⟩ := rd_T40_at l i h0 h
  rw [List.all_eq_false]
  exact ⟨l[i.toNat], List.getElem_mem hi, by rw [← e, hp]; simp⟩
theorem sightsF_bad (l : List S40) (h : l.length ≤ 400) (hb : l.all (sightB l.length) = false) : sightsF l = 1 := by
  unfold sightsF; rw [if_neg (by omega), hb]; rfl
theorem sightsF_far (l : List S40) (h : l.length ≤ 400) (ha : l.all (sightB l.length) = true) (hb : (l.all fun s => (ups l (l.length + 1) s.f3).isSome) = false) : sightsF l = 1 := by
  unfold sightsF; rw [if_neg (by omega), if_pos ha, hb]; rfl
theorem sightsF_err (l : List S40) (h : l.length ≤ 400) (ha : l.all (sightB l.length) = true) (hb : (l.all fun s => (ups l (l.length + 1) s.f3).isSome) = true) : sightsF l = firstErr (l.flatMap fun s => s.f1 ++ [s.f2]) := by
  unfold sightsF; rw [if_neg (by omega), if_pos ha, if_pos hb]
abbrev cells40 (x : S40) (A1 : Option Addr) (c1 : Nat) (A5 : Option Addr) (c5 : Nat) : Array Value :=
  #[.string x.f0, .slice A1 x.f1.length c1, .int .i64 x.f2.f0, .string x.f2.f1, .int .i64 x.f2.f2, .slice A5 x.f2.f3.length c5, .int .i64 x.f3]
theorem firstErr_drop (l : List S40) (i : Int) (h0 : 0 ≤ i) (h : i < l.length) : (l.drop i.toNat).flatMap (fun s => s.f1 ++ [s.f2]) = (rd_T40 l i).f1 ++ [(rd_T40 l i).f2] ++ (l.drop (i + 1).toNat).flatMap (fun s => s.f1 ++ [s.f2]) := by
  obtain ⟨hi, e⟩ := rd_T40_at l i h0 h
  rw [show (i + 1).toNat = i.toNat + 1 by omega, List.drop_eq_getElem_cons hi, List.flatMap_cons, e]
theorem at_dR {w W : World} {A : Option Addr} {n : Nat} {xs : List S38} (h : Kd.C (dR w) W A n xs) (i : Int) (h0 : 0 ≤ i) (h1 : i < n) : ∃ ad A3 c3, A = some ad ∧ W.cell? (ad.add (i.toNat * 4)) = some (.int .i64 (rd_T38 xs i).f0) ∧ W.cell? ⟨(ad.add (i.toNat * 4)).block, (ad.add (i.toNat * 4)).off + 1, none⟩ = some (.string (rd_T38 xs i).f1) ∧ W.cell? ⟨(ad.add (i.toNat * 4)).block, (ad.add (i.toNat * 4)).off + 2, none⟩ = some (.int .i64 (rd_T38 xs i).f2) ∧ W.cell? ⟨(ad.add (i.toNat * 4)).block, (ad.add (i.toNat * 4)).off + 3, none⟩ = some (.slice A3 (rd_T38 xs i).f3.length c3) ∧ (rd_T38 xs i).f3.length ≤ c3 ∧ Kd.C k38 w A3 (rd_T38 xs i).f3.length (rd_T38 xs i).f3 := by
  obtain ⟨ad, c, e, _, hK, hc0⟩ := Kd.C_get h z38 i h0 h1
  have hc : ∀ j u, c[j]? = some u → W.cell? (ad.add (i.toNat * 4 + j)) = some u := hc0
  obtain ⟨A3, c3, rfl, l3, g3⟩ := k38_open (w := w) hK
  exact ⟨ad, A3, c3, e, hc 0 _ rfl, by rw [← add_field _ _ 1 (by omega)]; exact hc 1 _ rfl, by rw [← add_field _ _ 2 (by omega)]; exact hc 2 _ rfl, by rw [← add_field _ _ 3 (by omega)]; exact hc 3 _ rfl, l3, g3⟩
theorem firstErr_step (xs ys : List S38) (j : Int) (h0 : 0 ≤ j) (h : j < xs.length) : firstErr (xs.drop j.toNat ++ ys) = if validF (rd_T38 xs j) = 0 then firstErr (xs.drop (j + 1).toNat ++ ys) else validF (rd_T38 xs j) := by
  have hlt : j.toNat < xs.length := by omega
  rw [show (j + 1).toNat = j.toNat + 1 by omega, List.drop_eq_getElem_cons hlt, show rd_T38 xs j = xs[j.toNat] by simp [rd_T38, List.getD, hlt]]
  rfl
theorem sightB_args {n : Nat} {s : S40} (h : sightB n s = true) : s.f1.length ≤ 8 := by
  simp only [sightB, Bool.and_eq_true, decide_eq_true_eq] at h
  exact h.2
theorem sightB_up {n : Nat} {s : S40} (h : sightB n s = true) : -1 ≤ s.f3 ∧ s.f3 < n := by
  simp only [sightB, Bool.and_eq_true, decide_eq_true_eq] at h
  exact ⟨h.1.1.2, h.1.2⟩
theorem rd_all (p : S40 → Bool) (l : List S40) (i : Int) (h0 : 0 ≤ i) (h : i < l.length) (hf : l.all p = true) : p (rd_T40 l i) = true := by
  obtain ⟨hi, e⟩ := rd_T40_at l i h0 h
  rw [e]; exact List.all_eq_true.1 hf _ (List.getElem_mem hi)
theorem ups_neg (l : List S40) (n : Nat) (k : Int) (h : k < 0) : (ups l n k).isSome = true := by
  cases n <;> simp [ups, h]
theorem ups_zero (l : List S40) (k : Int) (h : 0 ≤ k) : (ups l 0 k).isSome = false := by
  simp [ups]; omega
theorem ups_step (l : List S40) (n m : Nat) (k : Int) (h : 0 ≤ k) (e : n = m + 1) : (ups l n k).isSome = (ups l m (rd_T40 l k).f3).isSome := by
  subst e
  simp only [ups]; rw [if_neg (by omega)]; simp
set_option maxHeartbeats 8000000 in
set_option maxRecDepth 100000 in
theorem sights_calls (A0 : Option Addr) (c0 : Nat) (l : List S40) (w : World) (hr0 : Kd.C k40 w A0 l.length l) (hc0 : l.length ≤ c0) :
    Calls Tryz.prog 14 #[.slice A0 l.length c0] w fun e w' => e = .returned (.int .i64 (sightsF l)) ∧ Below w.heap.size w w' := by
  have HR0 := Aside0.mk hr0
  have HC0 := Aside0.mk hc0
  have HB := Below.refl w.heap.size w
  clear hr0 hc0
  obtain ⟨z, hz⟩ : ∃ z, sightsF l = z := ⟨_, rfl⟩
  rw [hz]
  have HZ := Aside0.mk hz
  clear hz
  by_cases h400 : l.length ≤ 400
  · have c1 : decide ((l.length : Int) > 400) = false := decide_eq_false (by omega)
    have c2 : decide (400 < (l.length : Int)) = false := decide_eq_false (by omega)
    go_enter Tryz.func14, Tryz.ntmps14
    go_wp2
    go_loopg [4, 18] l.length (fun gg _ s18 wr => ∃ i : Int, s18 = .int .i64 i ∧ Aside0 (0 ≤ i ∧ i ≤ l.length ∧ l.length - i.toNat ≤ gg) ∧ Below w.heap.size w wr ∧ Aside0 ((l.take i.toNat).all (sightB l.length) = true))
    case atStart => exact ⟨0, rfl, ⟨by omega, by omega, by omega⟩, HB, ⟨rfl⟩⟩
    case round =>
      clear HB
      obtain ⟨i, rfl, HI, HB, HD⟩ := hrel
      by_cases hlt : i < (l.length : Int)
      · have c3 : decide (i < (l.length : Int)) = true := decide_eq_true hlt
        have p0 : 0 ≤ i := HI.out.1
        obtain ⟨ad, A1, c1_, A5, c5, e0, x0, x1, x2, x3, x4, x5, x6, hl1, hi1, hl5, hi5⟩ := at_T40 HR0.out i p0 hlt
        cases e0
        replace x0 := (HB.cell (World.block_lt_of_cell? w _ x0)).trans x0
        replace x1 := (HB.cell (World.block_lt_of_cell? w _ x1)).trans x1
        replace x2 := (HB.cell (World.block_lt_of_cell? w _ x2)).trans x2
        replace x3 := (HB.cell (World.block_lt_of_cell? w _ x3)).trans x3
        replace x4 := (HB.cell (World.block_lt_of_cell? w _ x4)).trans x4
        replace x5 := (HB.cell (World.block_lt_of_cell? w _ x5)).trans x5
        replace x6 := (HB.cell (World.block_lt_of_cell? w _ x6)).trans x6
        have HLT := Aside0.mk hlt
        have P0 := Aside0.mk p0
        replace hlt := eq_true hlt
        replace p0 := eq_true p0
        have q0 : decide (0 ≤ i) = true := decide_eq_true P0.out
        obtain ⟨kq, hq⟩ := coreName_evt (rd_T40 l i).f0
        have HN := Aside0.mk (hq kq (Nat.le_refl _))
        clear hq
        have HS := Aside0.mk (show sightB l.length (rd_T40 l i) = (coreQ (bs (rd_T40 l i).f0) && decide (¬ (rd_T40 l i).f0.toList = [95]) && decide (-1 ≤ (rd_T40 l i).f3) && decide ((rd_T40 l i).f3 < l.length) && decide (((rd_T40 l i).f1.length : Int) ≤ 8)) by
          rw [toList_bs, show decide (((rd_T40 l i).f1.length : Int) ≤ 8) = decide ((rd_T40 l i).f1.length ≤ 8) from decide_eq_decide.2 (by omega)]
          unfold sightB; rw [← coreQ_core])
        have HT := Aside0.mk (take_all (sightB l.length) l i P0.out HLT.out)
        have HG := Aside0.mk (fun hb => HZ.out.symm.trans (sightsF_bad l h400 (all_false (sightB l.length) l i P0.out HLT.out hb)))
        have HW := Aside0.mk (show wrap64 (i + 1) = i + 1 by have := HLT.out; have := P0.out; unfold wrap64; omega)
        generalize coreQ (bs (rd_T40 l i).f0) = q at HN HS
        cases q with
        | true =>
          go_wp2_with (go_at_call 26; refine (syntax_IsCoreName.calls kq _ true _ HN.out).mono ?_; rintro e w7 ⟨rfl, hb7⟩; have BK := Aside0.mk (blk_below (g := wr.heap.size) (blk_new wr _) hb7); clear x0 x1 x2 x3 x4 x5 x6; have m0 : w7.cell? ⟨wr.heap.size, 0, none⟩ = some (.string (rd_T40 l i).f0) := (blk_cell BK.out 0).trans rfl; have m1 : w7.cell? ⟨wr.heap.size, 1, none⟩ = some (.slice A1 (rd_T40 l i).f1.length c1_) := (blk_cell BK.out 1).trans rfl; have m6 : w7.cell? ⟨wr.heap.size, 6, none⟩ = some (.int .i64 (rd_T40 l i).f3) := (blk_cell BK.out 6).trans rfl; have HB7 := below_step (below_alloc HB _) hb7; clear hb7)
          all_goals first
            | (go_ret
               refine ⟨?_, HB7⟩
               rw [HG.out (by
                 rw [HS.out]
                 first
                 | (simp [*]; done) | (simp [*]; omega)
                 | (rename_i hh
                    rcases hh with ((hh | hh) | hh) | hh
                    · simp [beq_iff_eq.1 hh]
                    · rw [decide_eq_false (p := -1 ≤ (rd_T40 l i).f3) (by omega)]; simp
                    · rw [decide_eq_false (p := (rd_T40 l i).f3 < l.length) (by omega)]; simp
                    · rw [decide_eq_false (p := ((rd_T40 l i).f1.length : Int) ≤ 8) (by omega)]; simp))]
               rfl)
            | (go_roundg (l.length - (i + 1).toNat)
               case measure => have := HI.out; have := HLT.out; have := P0.out; omega
               case rel =>
                 refine ⟨i + 1, by rw [HW.out], ⟨by have := P0.out; omega, by have := HLT.out; omega, by omega⟩, HB7, ⟨?_⟩⟩
                 rw [HT.out, HD.out, HS.out]
                 rename_i hh
                 obtain ⟨⟨⟨h1, h2⟩, h3⟩, h4⟩ := hh
                 rw [decide_eq_true h2, decide_eq_true h3, decide_eq_true h4, decide_eq_true (p := ¬ (rd_T40 l i).f0.toList = [95]) (by simpa using h1)]
                 rfl)
        | false =>
          go_wp2_with (go_at_call 26; refine (syntax_IsCoreName.calls kq _ false _ HN.out).mono ?_; rintro e w7 ⟨rfl, hb7⟩; clear x0 x1 x2 x3 x4 x5 x6; have HB7 := below_step (below_alloc HB _) hb7; clear hb7)
          go_ret
          exact ⟨by rw [HG.out (by rw [HS.out]; rfl)]; rfl, HB7⟩
      · have c3 : decide (i < (l.length : Int)) = false := decide_eq_false hlt
        have HA := Aside0.mk (show l.all (sightB l.length) = true by
          have h := HD.out
          rwa [List.take_of_length_le (by have := HI.out; omega)] at h)
        clear HD HI hlt
        have HB1 := HB
        clear HB
        go_wp2
        go_loopg [52] l.length (fun gg s52 wr => ∃ i : Int, s52 = .int .i64 i ∧ Aside0 (0 ≤ i ∧ i ≤ l.length ∧ l.length - i.toNat ≤ gg) ∧ Below w.heap.size w wr ∧ Aside0 ((l.take i.toNat).all (fun s => (ups l (l.length + 1) s.f3).isSome) = true))
        case atStart => exact ⟨0, rfl, ⟨by omega, by omega, by omega⟩, HB1, ⟨rfl⟩⟩
        case round =>
          clear HB1 c3
          obtain ⟨i, rfl, HI, HB, HD⟩ := hrel
          by_cases hlt : i < (l.length : Int)
          · have c3 : decide (i < (l.length : Int)) = true := decide_eq_true hlt
            have p0 : 0 ≤ i := HI.out.1
            obtain ⟨ad, A1, c1_, A5, c5, e0, x0, x1, x2, x3, x4, x5, x6, hl1, hi1, hl5, hi5⟩ := at_T40 HR0.out i p0 hlt
            cases e0
            replace x6 := (HB.cell (World.block_lt_of_cell? w _ x6)).trans x6
            clear x0 x1 x2 x3 x4 x5 hl1 hi1 hl5 hi5
            have HLT := Aside0.mk hlt
            have P0 := Aside0.mk p0
            replace hlt := eq_true hlt
            replace p0 := eq_true p0
            have q0 : decide (0 ≤ i) = true := decide_eq_true P0.out
            have HT := Aside0.mk (take_all (fun s => (ups l (l.length + 1) s.f3).isSome) l i P0.out HLT.out)
            have HG := Aside0.mk (fun hb => HZ.out.symm.trans (sightsF_far l h400 HA.out (all_false (fun s => (ups l (l.length + 1) s.f3).isSome) l i P0.out HLT.out hb)))
            have HW := Aside0.mk (show wrap64 (i + 1) = i + 1 by have := HLT.out; have := P0.out; unfold wrap64; omega)
            have HU := Aside0.mk (sightB_up (rd_all _ l i P0.out HLT.out HA.out))
            go_wp2
            go_loopg [6, 7] (l.length + 1) (fun gg s6 s7 wr => ∃ (k : Int) (m : Int), s6 = .int .i64 k ∧ s7 = .int .i64 m ∧ Aside0 (0 ≤ m ∧ m ≤ l.length + 1 ∧ l.length + 1 - m.toNat ≤ gg) ∧ Aside0 (-1 ≤ k ∧ k < l.length) ∧ Below w.heap.size w wr ∧ Aside0 ((ups l (l.length + 1) (rd_T40 l i).f3).isSome = (ups l (l.length + 1 - m.toNat) k).isSome))
            case atStart => exact ⟨_, 0, rfl, rfl, ⟨by omega, by omega, by omega⟩, HU, HB, ⟨rfl⟩⟩
            case round =>
              clear HB x6
              obtain ⟨k, m, rfl, rfl, HM, HK, HB, HP⟩ := hrel
              by_cases k0 : 0 ≤ k
              · by_cases m0 : m ≤ (l.length : Int)
                · have klt : k < (l.length : Int) := HK.out.2
                  obtain ⟨ad2, A1, c1_, A5, c5, e0, x0, x1, x2, x3, x4, x5, x6, hl1, hi1, hl5, hi5⟩ := at_T40 HR0.out k k0 klt
                  cases e0
                  replace x6 := (HB.cell (World.block_lt_of_cell? w _ x6)).trans x6
                  clear x0 x1 x2 x3 x4 x5 hl1 hi1 hl5 hi5
                  have K0 := Aside0.mk k0
                  have KLT := Aside0.mk klt
                  have M0 := Aside0.mk m0
                  replace k0 := eq_true k0
                  replace klt := eq_true klt
                  replace m0 := eq_true m0
                  have d1 : decide (0 ≤ k) = true := decide_eq_true K0.out
                  have d2 : decide (m ≤ (l.length : Int)) = true := decide_eq_true M0.out
                  have d3 : decide (k < (l.length : Int)) = true := decide_eq_true KLT.out
                  have HWm := Aside0.mk (show wrap64 (m + 1) = m + 1 by have := M0.out; have := HM.out; unfold wrap64; omega)
                  go_wp2
                  go_roundg (l.length + 1 - (m + 1).toNat)
                  case measure => have := HM.out; have := M0.out; omega
                  case rel => exact ⟨_, m + 1, rfl, by rw [HWm.out], ⟨by have := HM.out; omega, by have := M0.out; omega, by omega⟩, ⟨sightB_up (rd_all _ l k K0.out KLT.out HA.out)⟩, HB, ⟨HP.out.trans (ups_step l _ _ k K0.out (by have := HM.out; have := M0.out; omega))⟩⟩
                · have K0 := Aside0.mk k0
                  have d1 : decide (0 ≤ k) = true := decide_eq_true k0
                  have d2 : decide (m ≤ (l.length : Int)) = false := decide_eq_false m0
                  have HN := Aside0.mk (show (ups l (l.length + 1) (rd_T40 l i).f3).isSome = false by
                    rw [HP.out, show l.length + 1 - m.toNat = 0 by have := HM.out; omega]; exact ups_zero l k k0)
                  clear k0 m0
                  go_wp2
                  go_ret
                  exact ⟨by rw [HG.out HN.out]; rfl, HB⟩
              · have d1 : decide (0 ≤ k) = false := decide_eq_false k0
                have HN := Aside0.mk (show (ups l (l.length + 1) (rd_T40 l i).f3).isSome = true by rw [HP.out]; exact ups_neg l _ k (by omega))
                clear k0
                go_wp2
                go_roundg (l.length - (i + 1).toNat)
                case measure => have := HI.out; have := HLT.out; have := P0.out; omega
                case rel => exact ⟨i + 1, by rw [HW.out], ⟨by have := P0.out; omega, by have := HLT.out; omega, by omega⟩, HB, ⟨by rw [HT.out, HD.out, HN.out]; rfl⟩⟩
          · have c3 : decide (i < (l.length : Int)) = false := decide_eq_false hlt
            have HA2 := Aside0.mk (show (l.all fun s => (ups l (l.length + 1) s.f3).isSome) = true by
              have h := HD.out
              rwa [List.take_of_length_le (by have := HI.out; omega)] at h)
            have HE := Aside0.mk (HZ.out.symm.trans (sightsF_err l h400 HA.out HA2.out))
            clear HD HI hlt
            have HB2 := HB
            clear HB
            go_wp2
            go_loopg [80] l.length (fun gg s80 wr => ∃ i : Int, s80 = .int .i64 i ∧ Aside0 (0 ≤ i ∧ i ≤ l.length ∧ l.length - i.toNat ≤ gg) ∧ Below w.heap.size w wr ∧ Aside0 (z = firstErr ((l.drop i.toNat).flatMap fun s => s.f1 ++ [s.f2])))
            case atStart => exact ⟨0, rfl, ⟨by omega, by omega, by omega⟩, HB2, ⟨HE.out⟩⟩
            case round =>
              clear HB2 c3
              obtain ⟨i, rfl, HI, HB, HD⟩ := hrel
              by_cases hlt : i < (l.length : Int)
              · have c3 : decide (i < (l.length : Int)) = true := decide_eq_true hlt
                have p0 : 0 ≤ i := HI.out.1
                obtain ⟨ad, A1, c1_, A5, c5, e0, x0, x1, x2, x3, x4, x5, x6, hl1, hi1, hl5, hi5⟩ := at_T40 HR0.out i p0 hlt
                cases e0
                replace x0 := (HB.cell (World.block_lt_of_cell? w _ x0)).trans x0
                replace x1 := (HB.cell (World.block_lt_of_cell? w _ x1)).trans x1
                replace x2 := (HB.cell (World.block_lt_of_cell? w _ x2)).trans x2
                replace x3 := (HB.cell (World.block_lt_of_cell? w _ x3)).trans x3
                replace x4 := (HB.cell (World.block_lt_of_cell? w _ x4)).trans x4
                replace x5 := (HB.cell (World.block_lt_of_cell? w _ x5)).trans x5
                replace x6 := (HB.cell (World.block_lt_of_cell? w _ x6)).trans x6
                have HC1 := Aside0.mk hi1
                have HC5 := Aside0.mk hi5
                have HL1 := Aside0.mk hl1
                have HL5 := Aside0.mk hl5
                clear hi1 hi5 hl1 hl5
                have HLT := Aside0.mk hlt
                have P0 := Aside0.mk p0
                replace hlt := eq_true hlt
                replace p0 := eq_true p0
                have q0 : decide (0 ≤ i) = true := decide_eq_true P0.out
                have HA8 := Aside0.mk (sightB_args (rd_all _ l i P0.out HLT.out HA.out))
                have HDr := Aside0.mk (firstErr_drop l i P0.out HLT.out)
                have HW := Aside0.mk (show wrap64 (i + 1) = i + 1 by have := HLT.out; have := P0.out; unfold wrap64; omega)
                generalize hsg : rd_T40 l i = sg at *
                go_upto_region 22 with fail
                go_cut [90, 91, 92] from 84 to 92 (fun v90 v91 v92 wx => v91 = .int .i64 ((sg.f1.length : Int) + 1) ∧ v92 = .int .i64 0 ∧ Aside0 (Kd.R (dR w) 38 wx w.heap.size (fun _ => True) v90 (sg.f1 ++ [sg.f2])) ∧ Below w.heap.size w wx)
                case first =>
                  go_region_law (first
                    | (refine Kd.R_append_rows_step (dR w) (Rr := fun x cs => k38.K w x cs) (w0 := w) w.heap.size rfl (.const (.slice none 0 0)) (.tmp 85) 36 38 _ 56 rfl Tryz.underlying36 info38 rfl (Nat.zero_lt_succ 3) (Nat.zero_lt_succ 55) (.slice none 0 0) [] sg.f1 A1 sg.f1.length c1_ (fun _ => True) (fun _ => False) rfl rfl (Kd.R_nil _ _ _ _ _) ?aR (fun _ _ h => h) (fun _ h => h.elim) (fun _ _ => trivial) ?aB ?aS ?aL ?_
                       case aR => exact dR_C HC1.out (by (repeat (first | (with_reducible first | exact Below.refl _ _ | apply below_alloc | apply pw_below_drewN | apply below_drew1) | (with_reducible assumption))))
                       case aB => (repeat (first | (with_reducible first | exact Below.refl _ _ | apply below_alloc | apply pw_below_drewN | apply below_drew1) | (with_reducible assumption)))
                       case aS => exact (below_size (by (repeat (first | (with_reducible first | exact Below.refl _ _ | apply below_alloc | apply pw_below_drewN | apply below_drew1) | (with_reducible assumption)))))
                       case aL => (have := HA8.out; simp; omega)
                       intro v1 w1 ho1 hb1 hg1 hat1
                       have m1 := cell_grown hg1 (a := ⟨wr.heap.size, 1, none⟩) (v := .slice A1 sg.f1.length c1_) (by simp) (by simp [Value.ownBlock])
                       have m2 := cell_grown hg1 (a := ⟨wr.heap.size, 2, none⟩) (v := .int .i64 sg.f2.f0) (by simp) (by simp [Value.ownBlock])
                       have m3 := cell_grown hg1 (a := ⟨wr.heap.size, 3, none⟩) (v := .string sg.f2.f1) (by simp) (by simp [Value.ownBlock])
                       have m4 := cell_grown hg1 (a := ⟨wr.heap.size, 4, none⟩) (v := .int .i64 sg.f2.f2) (by simp) (by simp [Value.ownBlock])
                       have m5 := cell_grown hg1 (a := ⟨wr.heap.size, 5, none⟩) (v := .slice A5 sg.f2.f3.length c5) (by simp) (by simp [Value.ownBlock]))
                    | (refine Kd.R_append_rows_step (dR w) (Rr := fun x cs => k38.K w x cs) (w0 := w) w.heap.size rfl (.tmp 86) (.tmp 89) 36 38 _ 56 rfl Tryz.underlying36 info38 rfl (Nat.zero_lt_succ 3) (Nat.zero_lt_succ 55) v1 sg.f1 [sg.f2] _ 1 1 (fun _ => True) (fun _ => False) rfl rfl ?aO ?aR (fun _ _ h => h) (fun _ h => h.elim) (fun _ _ => trivial) ?aB ?aS ?aL ?_
                       case aO => (repeat (first | exact ho1 | apply Kd.R_alloc | apply Kd.R_drewN | apply Kd.R_drew))
                       case aR => (refine lit_reads HC5.out HL5.out ?_ ?_ ?_ ?_ <;> first | (simp; done) | exact cell_grown hg1 (by simp) (by simp [Value.ownBlock]))
                       case aB => (repeat (first | (with_reducible first | exact Below.refl _ _ | apply below_alloc | apply pw_below_drewN | apply below_drew1) | (with_reducible assumption)))
                       case aS => exact (below_size (by (repeat (first | (with_reducible first | exact Below.refl _ _ | apply below_alloc | apply pw_below_drewN | apply below_drew1) | (with_reducible assumption)))))
                       case aL => (have := HA8.out; simp; omega)
                       intro v2 w2 ho2 hb2 hg2 hat2
                       obtain ⟨A2, c2_, hv2, hl2⟩ := ho2.2.slice_
                       have HO2 := Aside0.mk ho2
                       clear ho2
                       subst hv2))
                  all_goals
                    go_wp2_with fail
                    go_meet
                    exact ⟨rfl, rfl, ⟨by have h := HO2.out; simp only [List.length_append, List.length_cons, List.length_nil] at h; exact h⟩, hb2⟩
                case rest =>
                  obtain ⟨rfl, rfl, HO, HB9⟩ := hcut
                  obtain ⟨A2, n2, rfl, hl2, hC2⟩ := HO.out.2.reads
                  have HC9 := Aside0.mk hC2
                  have HLn := Aside0.mk (show (sg.f1 ++ [sg.f2]).length = sg.f1.length + 1 by simp)
                  have HDd := Aside0.mk (HD.out.trans (by rw [HDr.out]))
                  have HC8 : Aside0 (Kd.C (dR w) wc A2 (sg.f1 ++ [sg.f2]).length (sg.f1 ++ [sg.f2])) := ⟨HC9.out⟩
                  clear HC9 hC2 HO x0 x1 x2 x3 x4 x5 x6
                  generalize hys : (l.drop (i + 1).toNat).flatMap (fun s => s.f1 ++ [s.f2]) = ys at HDd
                  have HYs := Aside0.mk hys
                  clear hys HDr
                  generalize hxs : sg.f1 ++ [sg.f2] = xs at HDd HC8 HLn hl2
                  clear hxs
                  have HL1' := HLn
                  go_wp2_with fail
                  go_loopg [92] xs.length (fun gg s92 wr' => ∃ j : Int, s92 = .int .i64 j ∧ Aside0 (0 ≤ j ∧ j ≤ xs.length ∧ xs.length - j.toNat ≤ gg) ∧ Below w.heap.size w wr' ∧ Aside0 (Kd.C (dR w) wr' A2 xs.length xs) ∧ Aside0 (z = firstErr (xs.drop j.toNat ++ ys)))
                  case atStart => exact ⟨0, rfl, ⟨by omega, by omega, by omega⟩, HB9, HC8, HDd⟩
                  case round =>
                    clear HB9 HC8 HDd
                    obtain ⟨j, rfl, HJ, HB, HC, HZ2⟩ := hrel
                    by_cases jlt : j < (xs.length : Int)
                    · have j0 : 0 ≤ j := HJ.out.1
                      obtain ⟨ad2, A3, c3_, e0, y0, y1, y2, y3, hl3, hC3⟩ := at_dR HC.out j j0 jlt
                      cases e0
                      have HC3 := Aside0.mk hC3
                      have HL3 := Aside0.mk hl3
                      clear hC3 hl3
                      have HS := Aside0.mk (HZ2.out.trans (firstErr_step xs ys j j0 jlt))
                      have J0 := Aside0.mk j0
                      have JLT := Aside0.mk jlt
                      have d1 : decide (j < (sg.f1.length : Int) + 1) = true := decide_eq_true (by have := HL1'.out; omega)
                      have d1' : decide (j < (xs.length : Int)) = true := decide_eq_true jlt
                      have d2 : decide (0 ≤ j) = true := decide_eq_true j0
                      replace j0 := eq_true j0
                      replace jlt := eq_true jlt
                      have HWj := Aside0.mk (show wrap64 (j + 1) = j + 1 by have := JLT.out; have := J0.out; have := HL1'.out; have := HA8.out; unfold wrap64; omega)
                      have HV := Aside0.mk (fun W (hW : Below w.heap.size w W) => valid_calls (rd_T38 xs j) A3 c3_ W (Kd.C_below HC3.out hW) HL3.out)
                      generalize validF (rd_T38 xs j) = vf at HS HV
                      by_cases hv : vf = 0
                      · have v1 : (vf != 0) = false := by simpa using hv
                        have HS2 := Aside0.mk (show z = firstErr (xs.drop (j + 1).toNat ++ ys) by rw [HS.out, if_pos hv])
                        clear hv HS
                        go_wp2_with (go_at_call 27; refine (HV.out _ (by (repeat (first | (with_reducible first | exact Below.refl _ _ | apply below_alloc | apply pw_below_drewN | apply below_drew1) | (with_reducible assumption))))).mono ?_; rintro e w9 ⟨rfl, hb9⟩; clear y0 y1 y2 y3; have HB9 : Below w.heap.size w w9 := below_step (by (repeat (first | (with_reducible first | exact Below.refl _ _ | apply below_alloc | apply pw_below_drewN | apply below_drew1) | (with_reducible assumption)))) hb9; have HBw : Below wr.heap.size wr w9 := below_step (below_alloc (Below.refl _ _) _) hb9)
                        go_roundg (xs.length - (j + 1).toNat)
                        case measure => have := HJ.out; have := JLT.out; have := J0.out; omega
                        case rel => exact ⟨j + 1, by rw [HWj.out], ⟨by have := J0.out; omega, by have := JLT.out; omega, by omega⟩, HB9, ⟨Kd.C_below HC.out HBw⟩, HS2⟩
                      · have v1 : (vf != 0) = true := by simpa using hv
                        have HS2 := Aside0.mk (show z = vf by rw [HS.out, if_neg hv])
                        clear hv HS
                        go_wp2_with (go_at_call 27; refine (HV.out _ (by (repeat (first | (with_reducible first | exact Below.refl _ _ | apply below_alloc | apply pw_below_drewN | apply below_drew1) | (with_reducible assumption))))).mono ?_; rintro e w9 ⟨rfl, hb9⟩; clear y0 y1 y2 y3; have HB9 : Below w.heap.size w w9 := below_step (by (repeat (first | (with_reducible first | exact Below.refl _ _ | apply below_alloc | apply pw_below_drewN | apply below_drew1) | (with_reducible assumption)))) hb9)
                        go_ret
                        exact ⟨by rw [HS2.out]; rfl, HB9⟩
                    · have HN := Aside0.mk (show z = firstErr ((l.drop (i + 1).toNat).flatMap fun s => s.f1 ++ [s.f2]) by
                        rw [HYs.out, HZ2.out, List.drop_of_length_le (by have := HJ.out; omega)]; rfl)
                      have d1 : decide (j < (sg.f1.length : Int) + 1) = false := decide_eq_false (by have := HL1'.out; omega)
                      have d1' : decide (j < (xs.length : Int)) = false := decide_eq_false jlt
                      clear jlt
                      go_wp2
                      go_roundg (l.length - (i + 1).toNat)
                      case measure => have := HI.out; have := HLT.out; have := P0.out; omega
                      case rel => exact ⟨i + 1, by rw [HW.out], ⟨by have := P0.out; omega, by have := HLT.out; omega, by omega⟩, HB, HN⟩
              · have HN := Aside0.mk (show z = 0 by rw [HD.out, List.drop_of_length_le (by have := HI.out; omega)]; rfl)
                have c3 : decide (i < (l.length : Int)) = false := decide_eq_false hlt
                clear hlt
                go_wp2
                go_ret
                exact ⟨by rw [HN.out]; rfl, HB⟩
  · have c2 : decide (400 < (l.length : Int)) = true := decide_eq_true (by omega)
    have HN := Aside0.mk (show z = 3 by rw [← HZ.out]; unfold sightsF; rw [if_pos (by omega)])
    go_enter Tryz.func14, Tryz.ntmps14
    go_wp2
    go_ret
    exact ⟨by rw [HN.out]; rfl, HB⟩
end Go.Proofs.YtdcdfahhlfeifaaGreatDoor.Q

end
