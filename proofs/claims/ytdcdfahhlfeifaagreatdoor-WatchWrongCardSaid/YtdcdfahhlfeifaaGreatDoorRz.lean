/- 'WatchWrong': for all lists of sights, numbers and answers the statement's function returns true, does not panic, and leaves its arguments as they were; the table of powers of ten that strconv reads is tied to the program's text by the card. Conditions: none beyond the given statement's own. -/
import Derived.Test.YtdcdfahhlfeifaaGreatDoorYj
import Derived.Test.YtdcdfahhlfeifaaGreatDoorCards
import Derived.Test.YtdcdfahhlfeifaaGreatDoorTie
import Derived.SevenTiedAt
namespace Go.Proofs.YtdcdfahhlfeifaaGreatDoor
theorem watchWrong_holds : Rows.WatchWrongCardSaid :=
  Claim7.holds_tied_plain_at .later [] [.data, .data, .data] true (true, "fbaadce0bce3b6735741df52a1a8d31c59c18c9c739b54659f6bace0d2d68679") true
    Q.proved (fun _ h => by cases h) (by as_aux_lemma => kernel_rfl) (fun _ h => by cases h) watchWrong_row_tie rfl ⟨rfl, rfl⟩ (by as_aux_lemma => kernel_rfl) rfl
    (fun f fn hf hfn => by
      obtain rfl : f = 3 := Option.some.inj ((show Tryz.prog.funcNamed "searchlight/searchlightlaw23.WatchWrong" = some 3 by as_aux_lemma => kernel_rfl).symm.trans hf) |>.symm
      obtain rfl : fn = Tryz.f3 := (Option.some.inj (Tryz.func3.symm.trans hfn)).symm
      exact ⟨by as_aux_lemma => kernel_rfl, fun j t ht => by
        rw [Tryz.params3] at ht
        have h3 : t = 22 ∨ t = 3 ∨ t = 23 := by
          rcases j with _ | _ | _ | j
          · exact .inl (by simpa using ht.symm)
          · exact .inr (.inl (by simpa using ht.symm))
          · exact .inr (.inr (by simpa using ht.symm))
          · simp at ht
        rcases h3 with rfl | rfl | rfl
        · exact (show Tryz.prog.wantsStandIn 22 = false by as_aux_lemma => kernel_rfl)
        · exact (show Tryz.prog.wantsStandIn 3 = false by as_aux_lemma => kernel_rfl)
        · exact (show Tryz.prog.wantsStandIn 23 = false by as_aux_lemma => kernel_rfl)⟩)
    (by as_aux_lemma => kernel_rfl)
#print axioms watchWrong_holds
end Go.Proofs.YtdcdfahhlfeifaaGreatDoor
