/- DeltaDiffMatchesReference: the walk. -/
import Derived.Test.YtncbgbmgbokeoaaDoorLaw19Base
namespace Go.Proofs.YtncbgbmgbokeoaaDoor
open Go.RowKit

set_option maxHeartbeats 3200000 in
theorem diffRef_walk (old next : ByteArray) (a0 a1 : Addr) (W : World) (hn : NibCells W) (he : ErrCells a0 a1 W) (h1 : old.size ≤ 140737488351232) (h2 : next.size ≤ 140737488351232) :
    Calls Tryd.prog 3 #[.string old, .string next] W fun e W' => e = .returned (.bool true) ∧ Below W.heap.size W W' := by
  obtain ⟨o, ho⟩ : ∃ o, cutF old 800 = o := ⟨_, rfl⟩
  obtain ⟨x, hx⟩ : ∃ x, cutF next 800 = x := ⟨_, rfl⟩
  have hos : o.size ≤ 800 := by rw [← ho, cutF_size]; omega
  have hxs : x.size ≤ 800 := by rw [← hx, cutF_size]; omega
  obtain ⟨d, hd⟩ : ∃ d, diffF o x = d := ⟨_, rfl⟩
  have c1 := fun W => cut19_any old 800 W (by omega)
  have c2 := fun W => cut19_any next 800 W (by omega)
  rw [ho] at c1
  rw [hx] at c2
  have C0 := Lib.hid (sane19_any a0 a1 W hn he)
  have C1 := Lib.hid c1
  have C2 := Lib.hid c2
  have C3 := Lib.hid (fun W h => diff_is hd W h (by omega) (by omega))
  have c4 := fun W => refDiff_any o x W (by omega) (by omega)
  rw [hd] at c4
  have C4 := Lib.hid c4
  clear c1 c2 c4 ho hx hd
  go_enter Tryd.func3, Tryd.ntmps3
  go_wp2_with fail
  refine (C0.out).mono ?_
  rintro e w1 ⟨rfl, hB1⟩
  go_wp2_with fail
  refine (C1.out _).mono ?_
  rintro e _ ⟨rfl, rfl⟩
  go_wp2_with fail
  refine (C2.out _).mono ?_
  rintro e _ ⟨rfl, rfl⟩
  go_wp2_with fail
  refine (C3.out _ (hn.below hB1)).mono ?_
  rintro e w2 ⟨rfl, hb2⟩
  have hB2 := Below_then hB1 hb2
  go_wp2_with fail
  refine (C4.out _).mono ?_
  rintro e w3 ⟨rfl, hb3⟩
  have hB3 := Below_then hB2 hb3
  go_wp2_with fail
  go_ret
  exact ⟨by simp, hB3⟩
end Go.Proofs.YtncbgbmgbokeoaaDoor
