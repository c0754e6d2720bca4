/- The checksum tells the texts of a few words apart; no proper beginning of such a text has its checksum. -/
import Derived.Test.YtkpgadjhcnkadaaDoorWordsSum
import Derived.Test.YtkpgadjhcnkadaaDoorDeltaPure2
set_option linter.unusedSimpArgs false
set_option linter.unusedVariables false
namespace Go.Proofs.YtkpgadjhcnkadaaDoor

theorem map_nat_inj : ∀ {a b : List UInt8}, a.map (·.toNat) = b.map (·.toNat) → a = b
  | [], [], _ => rfl
  | [], _ :: _, h => by simp at h
  | _ :: _, [], h => by simp at h
  | x :: a, y :: b, h => by
    simp only [List.map_cons, List.cons.injEq] at h
    rw [UInt8.toNat_inj.1 h.1, map_nat_inj h.2]
/-- A text of at most four of the four words. -/
def TX (s : ByteArray) : Prop := ∃ ds : List Nat, ds.length ≤ 4 ∧ (∀ d ∈ ds, d < 4) ∧ s.data.toList.map (·.toNat) = catN ds
theorem wordAt_4 : wordAt 4 = .empty := by decide
theorem wordsGo_tx : ∀ (i k : Nat) (s : ByteArray), ∃ ds : List Nat, ds.length ≤ i ∧ (∀ d ∈ ds, d < 4) ∧ (wordsGo i k s).data.toList.map (·.toNat) = s.data.toList.map (·.toNat) ++ catN ds
  | 0, k, s => ⟨[], by simp, by simp, by simp [wordsGo, catN]⟩
  | i + 1, k, s => by
    obtain ⟨ds, h1, h2, h3⟩ := wordsGo_tx i (k / 5) (s ++ wordAt (k % 5))
    unfold wordsGo
    by_cases h4 : k % 5 = 4
    · refine ⟨ds, by omega, h2, ?_⟩
      rw [h3, h4, wordAt_4]
      simp
    · refine ⟨(k % 5) :: ds, by simp; omega, fun d hd => ?_, ?_⟩
      · rcases List.mem_cons.1 hd with rfl | hd
        · omega
        · exact h2 d hd
      · rw [h3, ba_append, List.map_append, wN_is _ (by omega), List.append_assoc]
        rfl
theorem wordsF_tx (c : Int) : TX (wordsF c) := by
  obtain ⟨ds, h1, h2, h3⟩ := wordsGo_tx 4 (pickI c 625).toNat .empty
  exact ⟨ds, h1, h2, by unfold wordsF; rw [h3]; rfl⟩
theorem empty_tx : TX .empty := ⟨[], by simp, by simp, rfl⟩
theorem sum_reg {a b : ByteArray} (h : sumB a = sumB b) : crcN (a.data.toList.map (·.toNat)) 4294967295 = crcN (b.data.toList.map (·.toNat)) 4294967295 := by
  unfold sumB sumL at h
  rw [crcL_N, crcL_N] at h
  have h1 := crcL_lt a.data.toList 4294967295 (by decide)
  have h2 := crcL_lt b.data.toList 4294967295 (by decide)
  rw [crcL_N] at h1 h2
  omega
theorem reg_mem {ds : List Nat} (h1 : ds.length ≤ 4) (h2 : ∀ d ∈ ds, d < 4) : crcN (catN ds) 4294967295 ∈ regs4 := by
  unfold regs4
  rw [regN_is]
  exact List.mem_map.2 ⟨ds, mem_allN 4 ds h1 h2, rfl⟩
theorem sum_inj {a b : ByteArray} (ha : TX a) (hb : TX b) (h : sumB a = sumB b) : a = b := by
  obtain ⟨ds, d1, d2, d3⟩ := ha
  obtain ⟨es, e1, e2, e3⟩ := hb
  have hr := sum_reg h
  rw [d3, e3] at hr
  obtain ⟨i, hi, hi'⟩ := List.getElem_of_mem (mem_allN 4 ds d1 d2)
  obtain ⟨j, hj, hj'⟩ := List.getElem_of_mem (mem_allN 4 es e1 e2)
  have hp := List.pairwise_iff_getElem.1 (apartN_pw regs_apart)
  have hl : regs4.length = (allN 4).length := by unfold regs4; rw [regN_is, List.length_map]
  have hg : ∀ (k : Nat) (hk : k < (allN 4).length), regs4[k]'(by rw [hl]; exact hk) = crcN (catN (allN 4)[k]) 4294967295 := fun k hk => by
    unfold regs4
    simp only [regN_is, List.getElem_map]
  have hij : i = j := by
    rcases Nat.lt_trichotomy i j with hlt | heq | hgt
    · exact absurd (by rw [hg i hi, hg j hj, hi', hj', hr]) (hp i j (by rw [hl]; exact hi) (by rw [hl]; exact hj) hlt)
    · exact heq
    · exact absurd (by rw [hg i hi, hg j hj, hi', hj', hr]) (hp j i (by rw [hl]; exact hj) (by rw [hl]; exact hi) hgt)
  subst hij
  have : ds = es := hi'.symm.trans hj'
  subst this
  exact ba_of_list (map_nat_inj (d3.trans e3.symm))
theorem sum_quest {a b : ByteArray} (ha : TX a) (hb : TX b) : sumB (a ++ ⟨#[63]⟩) ≠ sumB b := by
  intro h
  obtain ⟨ds, d1, d2, d3⟩ := ha
  obtain ⟨es, e1, e2, e3⟩ := hb
  have hr := sum_reg h
  rw [ba_append, List.map_append, d3, e3, crcN_app] at hr
  have := regs_quest
  unfold quest at this
  have h1 := List.all_eq_true.1 (List.all_eq_true.1 this _ (reg_mem d1 d2)) _ (reg_mem e1 e2)
  rw [← hr] at h1
  simp [crcN] at h1
theorem scan_app (a b : List Nat) : ∀ r, scanN (a ++ b) r = scanN a r ++ scanN b (crcN a r) := by
  induction a with
  | nil => intro r; rfl
  | cons x a ih =>
    intro r
    show r :: scanN (a ++ b) (stepN r x) = r :: (scanN a (stepN r x) ++ scanN b (crcN a (stepN r x)))
    rw [ih]
theorem mem_scan : ∀ (l : List Nat) (k r : Nat), k < l.length → crcN (l.take k) r ∈ scanN l r
  | [], k, r, h => absurd h (by simp)
  | b :: l, 0, r, _ => by simp [scanN, crcN]
  | b :: l, k + 1, r, h => by
    have := mem_scan l k (stepN r b) (by simpa using h)
    unfold scanN
    exact List.mem_cons_of_mem _ this
theorem pre_ne : ∀ (n : Nat) (r : Nat) (seen ds : List Nat), preN n r seen = true → ds.length ≤ n → (∀ d ∈ ds, d < 4) → ∀ y ∈ seen ++ scanN (catN ds) r, y ≠ crcN (catN ds) r
  | n, r, seen, [], h, _, _ => by
    intro y hy e
    have hs : seen.all (fun x => !(Nat.beq x r)) = true := by
      cases n with
      | zero => exact h
      | succ n => unfold preN at h; rw [Bool.and_eq_true] at h; exact h.1
    have hy' : y ∈ seen := by simpa [catN, scanN] using hy
    have := List.all_eq_true.1 hs y hy'
    rw [e] at this
    simp [catN, crcN] at this
  | 0, r, seen, d :: ds, _, hl, _ => absurd hl (by simp)
  | n + 1, r, seen, d :: ds, h, hl, hd => by
    unfold preN at h
    rw [Bool.and_eq_true] at h
    have h1 := hd d (by simp)
    have hm : d ∈ [0, 1, 2, 3] := by simp; omega
    have := List.all_eq_true.1 h.2 d hm
    have ih := pre_ne n (crcN (wN d) r) (seen ++ scanN (wN d) r) ds this (by simpa using hl) (fun x hx => hd x (by simp [hx]))
    intro y hy
    have e : catN (d :: ds) = wN d ++ catN ds := by unfold catN; rw [List.flatMap_cons]
    rw [e, scan_app] at hy
    rw [e, crcN_app]
    exact ih y (by rw [List.append_assoc]; exact hy)
/-- No proper beginning of a text of words has its checksum. -/
theorem sum_prefix {s t : ByteArray} (hs : TX s) {u : List UInt8} (h : s.data.toList = t.data.toList ++ u) (he : sumB t = sumB s) : t = s := by
  obtain ⟨ds, d1, d2, d3⟩ := hs
  have hr := sum_reg he
  rw [d3] at hr
  cases u with
  | nil => exact ba_of_list (by rw [h]; simp)
  | cons x u =>
    exfalso
    have hc : catN ds = t.data.toList.map (·.toNat) ++ (x :: u).map (·.toNat) := by rw [← d3, h, List.map_append]
    have hk : t.data.toList.map (·.toNat) = (catN ds).take (t.data.toList.map (·.toNat)).length := by rw [hc]; simp
    have := mem_scan (catN ds) (t.data.toList.map (·.toNat)).length 4294967295 (by rw [hc]; simp)
    rw [← hk] at this
    exact pre_ne 4 4294967295 [] ds regs_pre d1 d2 _ (by simpa using this) hr
end Go.Proofs.YtkpgadjhcnkadaaDoor
