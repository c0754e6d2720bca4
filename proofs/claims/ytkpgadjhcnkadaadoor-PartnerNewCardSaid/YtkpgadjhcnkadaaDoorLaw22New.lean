/- PartnerNew: the walk. -/
import Derived.Test.YtkpgadjhcnkadaaDoorLaw22Sane
set_option linter.unusedSimpArgs false
set_option linter.unusedVariables false
namespace Go.Proofs.YtkpgadjhcnkadaaDoor
open Go.RowKit

theorem itemsF_nil : itemsF [] = [] := by kernel_rfl

set_option maxRecDepth 100000 in
set_option maxHeartbeats 6400000 in
theorem partnerNew_any (a : Int) (a0 a1 : Addr) (w : World) (hn : NibCells w) (he : ErrCells a0 a1 w) (h1 : -9223372036854775808 ≤ a) (h2 : a ≤ 9223372036854775807) :
    Calls Tryd.prog 4 #[.int .i64 a] w fun e w' => e = .returned (.bool true) ∧ Below w.heap.size w w' := by
  have CS := Lib.hid (sane22_any a0 a1 w hn he)
  have CDel := fun W => deliver_any 1 1 1 ⟨#[]⟩ ⟨#[97]⟩ W (by decide) (by decide)
  obtain ⟨m, hm⟩ : ∃ m, deliverM 1 1 1 ⟨#[]⟩ ⟨#[97]⟩ = m := ⟨_, rfl⟩
  rw [hm] at CDel
  have CD := Lib.hid CDel
  clear hn he CDel hm
  by_cases hlo : 1 ≤ a
  · have t1 : decide (1 ≤ a) = true := by simpa using hlo
    by_cases hhi : a ≤ 8
    · have t2 : decide (a ≤ 8) = true := by simpa using hhi
      have CN := Lib.hid (fun W => new_in a W hlo hhi)
      clear hlo hhi
      go_enter Tryd.func4, Tryd.ntmps4
      go_wp2_with fail
      refine (CS.out).mono ?_
      rintro e w1 ⟨rfl, hB1⟩
      go_wp2_with fail
      refine (CN.out _).mono ?_
      rintro e w2 ⟨rfl, hp2, hb2, hs2⟩
      have hB2 := Below_then hB1 hb2
      go_wp2_with fail
      refine (items_any hp2).mono ?_
      rintro e w3 ⟨v3, rfl, hi3, hb3⟩
      rw [itemsF_nil] at hi3
      obtain ⟨ao, cap, rfl⟩ := items_form hi3
      have hB3 := Below_then hB2 hb3
      simp only [List.length_nil]
      go_wp2_with fail
      refine (text_nil 1 _).mono ?_
      rintro e _ ⟨rfl, rfl⟩
      go_wp2_with fail
      refine (items_nil _).mono ?_
      rintro e _ ⟨rfl, rfl⟩
      go_wp2_with fail
      refine (CD.out _).mono ?_
      rintro e w4 ⟨rfl, hb4⟩
      have hB4 := Below_then hB3 hb4
      go_wp2_with fail
      refine (receive_nil m _).mono ?_
      rintro e w5 ⟨rfl, hb5⟩
      have hB5 := Below_then hB4 hb5
      go_wp2_with fail
      go_ret
      exact ⟨rfl, hB5⟩
    · have t2 : decide (a ≤ 8) = false := by simpa using hhi
      have CN := Lib.hid (fun W => new_out a W (.inr (by omega)))
      clear hlo hhi
      go_enter Tryd.func4, Tryd.ntmps4
      go_wp2_with fail
      refine (CS.out).mono ?_
      rintro e w1 ⟨rfl, hB1⟩
      go_wp2_with fail
      refine (CN.out _).mono ?_
      rintro e _ ⟨rfl, rfl⟩
      go_wp2_with fail
      refine (text_nil 1 _).mono ?_
      rintro e _ ⟨rfl, rfl⟩
      go_wp2_with fail
      refine (items_nil _).mono ?_
      rintro e _ ⟨rfl, rfl⟩
      go_wp2_with fail
      refine (CD.out _).mono ?_
      rintro e w4 ⟨rfl, hb4⟩
      have hB4 := Below_then hB1 hb4
      go_wp2_with fail
      refine (receive_nil m _).mono ?_
      rintro e w5 ⟨rfl, hb5⟩
      have hB5 := Below_then hB4 hb5
      go_wp2_with fail
      go_ret
      exact ⟨rfl, hB5⟩
  · have t1 : decide (1 ≤ a) = false := by simpa using hlo
    have CN := Lib.hid (fun W => new_out a W (.inl (by omega)))
    clear hlo
    go_enter Tryd.func4, Tryd.ntmps4
    go_wp2_with fail
    refine (CS.out).mono ?_
    rintro e w1 ⟨rfl, hB1⟩
    go_wp2_with fail
    refine (CN.out _).mono ?_
    rintro e _ ⟨rfl, rfl⟩
    go_wp2_with fail
    refine (text_nil 1 _).mono ?_
    rintro e _ ⟨rfl, rfl⟩
    go_wp2_with fail
    refine (items_nil _).mono ?_
    rintro e _ ⟨rfl, rfl⟩
    go_wp2_with fail
    refine (CD.out _).mono ?_
    rintro e w4 ⟨rfl, hb4⟩
    have hB4 := Below_then hB1 hb4
    go_wp2_with fail
    refine (receive_nil m _).mono ?_
    rintro e w5 ⟨rfl, hb5⟩
    have hB5 := Below_then hB4 hb5
    go_wp2_with fail
    go_ret
    exact ⟨rfl, hB5⟩
end Go.Proofs.YtkpgadjhcnkadaaDoor
