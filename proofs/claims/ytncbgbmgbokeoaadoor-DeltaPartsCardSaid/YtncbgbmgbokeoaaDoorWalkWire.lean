/- wire.PutString; the contracts of PutInt and PutString by their values. -/
import Derived.Test.YtncbgbmgbokeoaaDoorWalkRead
import Derived.Test.YtncbgbmgbokeoaaDoorWalkPut
import Derived.WalkSpells
import Derived.WalkLawsBesides
namespace Go.Proofs.YtncbgbmgbokeoaaDoor
open Go.RowKit

set_option maxHeartbeats 400000 in
theorem putStr_any (s : ByteArray) (w : World) (hs : s.size ≤ 140737488351232) :
    Calls Tryd.prog 15 #[.string s] w fun e w' => e = .returned (.tuple #[.string (putStr s).1, .int .i64 (putStr s).2]) ∧ Below w.heap.size w w' := by
  by_cases h : 65536 < s.size
  · have d1 : decide (65536 < s.size) = true := decide_eq_true h
    go_enter Tryd.func15, Tryd.ntmps15
    go_wp2
    go_ret2
    refine ⟨ret2_str ?_, Below.refl _ _⟩
    unfold putStr; rw [if_pos h]; rfl
  · have d1 : decide (65536 < s.size) = false := decide_eq_false h
    have hl := encInt_len s.size
    have hp : putInt s.size = (⟨(encInt s.size).toArray⟩, 0) := by unfold putInt maxInt; rw [if_neg (by omega)]
    have Hp := Lib.hid hp
    clear hp
    obtain ⟨p, hpp⟩ : ∃ p, (putInt s.size).1 = p := ⟨_, rfl⟩
    have hpl : p.size ≤ 10 := by rw [← hpp, Hp.out]; exact hl
    have Hpp := Lib.hid hpp
    go_enter Tryd.func15, Tryd.ntmps15
    go_wp2_with (go_at_call 14; refine (putInt_any _ _).mono ?_; rintro e w' ⟨rfl, hb⟩)
    go_ret2
    refine ⟨ret2_str ?_, hb⟩
    rw [← Hpp.out, Hp.out]
    unfold putStr; rw [if_neg h]

theorem putInt_is {n : Int} {s : ByteArray} {er : Int} (h : putInt n = (s, er)) (w : World) : Calls Tryd.prog 14 #[.int .i64 n] w fun e w' => e = .returned (.tuple #[.string s, .int .i64 er]) ∧ Below w.heap.size w w' := by
  have := putInt_any n w; rwa [h] at this
theorem putStr_is {n s : ByteArray} {er : Int} (h : putStr n = (s, er)) (hs : n.size ≤ 140737488351232) (w : World) : Calls Tryd.prog 15 #[.string n] w fun e w' => e = .returned (.tuple #[.string s, .int .i64 er]) ∧ Below w.heap.size w w' := by
  have := putStr_any n w hs; rwa [h] at this
end Go.Proofs.YtncbgbmgbokeoaaDoor
