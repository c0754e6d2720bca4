/- The checksums of the texts of a few words: plain laws, settled by the kernel. -/
import Derived.Test.YtkpgadjhcnkadaaDoorLaw22Base
set_option linter.unusedSimpArgs false
set_option linter.unusedVariables false
namespace Go.Proofs.YtkpgadjhcnkadaaDoor

def stepN (r b : Nat) : Nat := nib (nib (r ^^^ b))
def crcN (l : List Nat) (r : Nat) : Nat := l.foldl stepN r
theorem crcL_N (l : List UInt8) : ∀ r, crcL l r = crcN (l.map (·.toNat)) r := by
  induction l with
  | nil => intro r; rfl
  | cons b l ih => intro r; exact ih _
theorem crcN_app (a b : List Nat) (r : Nat) : crcN (a ++ b) r = crcN b (crcN a r) := by simp [crcN]
/-- The words as numbers. -/
def wN : Nat → List Nat
  | 0 => [84, 104, 101, 32, 99, 111, 117, 110, 99, 105, 108, 32, 118, 111, 116, 101, 100, 32, 111, 110, 32, 116, 104, 101, 32, 98, 117, 100, 103, 101, 116, 46, 32]
  | 1 => [82, 97, 105, 110, 32, 105, 115, 32, 101, 120, 112, 101, 99, 116, 101, 100, 32, 105, 110, 32, 116, 104, 101, 32, 110, 111, 114, 116, 104, 46, 32]
  | 2 => [84, 104, 101, 32, 109, 117, 115, 101, 117, 109, 32, 111, 112, 101, 110, 115, 32, 97, 103, 97, 105, 110, 46, 32]
  | _ => [84, 119, 111, 32, 98, 114, 105, 100, 103, 101, 115, 32, 97, 114, 101, 32, 99, 108, 111, 115, 101, 100, 46, 32]
theorem wN_is : ∀ d, d < 4 → (wordAt d).data.toList.map (·.toNat) = wN d := by decide
def catN (ds : List Nat) : List Nat := ds.flatMap wN
/-- The sequences of at most n of the four words. -/
def allN : Nat → List (List Nat)
  | 0 => [[]]
  | n + 1 => [] :: [0, 1, 2, 3].flatMap fun d => (allN n).map (d :: ·)
theorem mem_allN : ∀ (n : Nat) (ds : List Nat), ds.length ≤ n → (∀ d ∈ ds, d < 4) → ds ∈ allN n
  | 0, ds, h, _ => by
    have : ds = [] := List.length_eq_zero_iff.1 (by omega)
    subst this
    simp [allN]
  | n + 1, [], _, _ => by simp [allN]
  | n + 1, d :: ds, h, hd => by
    have h1 := hd d (by simp)
    have ih := mem_allN n ds (by simpa using h) (fun x hx => hd x (by simp [hx]))
    unfold allN
    refine List.mem_cons_of_mem _ (List.mem_flatMap.2 ⟨d, ?_, List.mem_map.2 ⟨ds, ih, rfl⟩⟩)
    have : d = 0 ∨ d = 1 ∨ d = 2 ∨ d = 3 := by omega
    simp
    omega
/-- Their registers, in that order. -/
def regN : Nat → Nat → List Nat
  | 0, r => [r]
  | n + 1, r => r :: [0, 1, 2, 3].flatMap fun d => regN n (crcN (wN d) r)
theorem regN_is : ∀ (n r : Nat), regN n r = (allN n).map fun ds => crcN (catN ds) r
  | 0, r => rfl
  | n + 1, r => by
    unfold regN allN
    rw [List.map_cons, List.map_flatMap]
    congr 1
    congr 1
    funext d
    rw [regN_is n, List.map_map]
    congr 1
    funext ds
    show _ = crcN (catN (d :: ds)) r
    unfold catN
    rw [List.flatMap_cons, crcN_app]
def apartN : List Nat → Bool
  | [] => true
  | r :: l => l.all (fun x => !(Nat.beq x r)) && apartN l
theorem apartN_pw : ∀ {l : List Nat}, apartN l = true → l.Pairwise (· ≠ ·)
  | [], _ => List.Pairwise.nil
  | r :: l, h => by
    unfold apartN at h
    rw [Bool.and_eq_true] at h
    refine List.Pairwise.cons (fun x hx e => ?_) (apartN_pw h.2)
    have := List.all_eq_true.1 h.1 x hx
    rw [← e] at this
    simp at this
def regs4 : List Nat := regN 4 4294967295
set_option maxRecDepth 100000 in
theorem regs_apart : apartN regs4 = true := by decide +kernel
def quest (l : List Nat) : Bool := l.all fun r => l.all fun x => !(Nat.beq x (stepN r 63))
set_option maxRecDepth 100000 in
theorem regs_quest : quest regs4 = true := by decide +kernel
/-- The registers ahead of each byte. -/
def scanN : List Nat → Nat → List Nat
  | [], _ => []
  | b :: l, r => r :: scanN l (stepN r b)
def preN : Nat → Nat → List Nat → Bool
  | 0, r, seen => seen.all fun x => !(Nat.beq x r)
  | n + 1, r, seen => (seen.all fun x => !(Nat.beq x r)) && [0, 1, 2, 3].all fun d => preN n (crcN (wN d) r) (seen ++ scanN (wN d) r)
set_option maxRecDepth 100000 in
theorem regs_pre : preN 4 4294967295 [] = true := by decide +kernel
end Go.Proofs.YtkpgadjhcnkadaaDoor
