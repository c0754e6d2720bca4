/- Plain: the reference's partner (a sorted list of entries) and the program's (a map) answer alike. -/
import Derived.Test.YtkpgadjhcnkadaaDoorRecvFns
set_option linter.unusedSimpArgs false
set_option linter.unusedVariables false
namespace Go.Proofs.YtkpgadjhcnkadaaDoor

/-- What the reference keeps of a story. -/
structure Ent where
  story : Int
  seq : Int
  has : Bool
  text : ByteArray
def noEnt (k : Int) : Ent := ⟨k, 0, false, .empty⟩
def entryF (E : List Ent) (k : Int) : Ent := (E.find? fun e => e.story == k).getD (noEnt k)
def keepGo (x : Ent) : List Ent → Bool → List Ent
  | [], done => if done then [] else [x]
  | p :: E, done => (if done = false ∧ x.story ≤ p.story then [x] else []) ++ ((if p.story ≠ x.story then [p] else []) ++ keepGo x E (done || decide (x.story ≤ p.story)))
def keepF (E : List Ent) (x : Ent) : List Ent := keepGo x E false
def recvR (id : Int) (E : List Ent) (m : Msg) : Option Msg × List Ent :=
  if validM m = false ∨ m.partner ≠ id ∨ (m.kind ≠ 1 ∧ m.kind ≠ 2) then (none, E)
  else if m.seq < (entryF E m.story).seq then (some (rejM id (entryF E m.story).seq m.story (sumB (entryF E m.story).text)), E)
  else if m.seq = (entryF E m.story).seq then (some (ackM id m.seq m.story (sumB (entryF E m.story).text)), E)
  else if m.kind = 2 then (some (ackM id m.seq m.story 0), keepF E ⟨m.story, m.seq, false, .empty⟩)
  else if sumB (if m.base = 0 then .empty else (entryF E m.story).text) ≠ m.base ∨ (applyF (if m.base = 0 then .empty else (entryF E m.story).text) m.data).2 ≠ 0 ∨ sumB (applyF (if m.base = 0 then .empty else (entryF E m.story).text) m.data).1 ≠ m.version then (some (rejM id m.seq m.story (sumB (entryF E m.story).text)), E)
  else (some (ackM id m.seq m.story m.version), keepF E ⟨m.story, m.seq, true, (applyF (if m.base = 0 then .empty else (entryF E m.story).text) m.data).1⟩)
def Sorted (E : List Ent) : Prop := E.Pairwise fun a b => a.story < b.story
theorem keepGo_true (x : Ent) : ∀ (E : List Ent), (∀ q ∈ E, q.story ≠ x.story) → keepGo x E true = E
  | [], _ => rfl
  | p :: E, h => by
    unfold keepGo
    rw [if_neg (by simp), if_pos (h p (List.mem_cons_self ..)), Bool.true_or, keepGo_true x E (fun q hq => h q (List.mem_cons_of_mem _ hq))]
    rfl
theorem keepGo_le {x p : Ent} {E : List Ent} (hs : Sorted (p :: E)) (h : x.story ≤ p.story) : keepGo x (p :: E) false = x :: ((if p.story ≠ x.story then [p] else []) ++ E) := by
  have hp := List.pairwise_cons.1 hs
  unfold keepGo
  rw [if_pos ⟨rfl, h⟩, show (false || decide (x.story ≤ p.story)) = true by simpa using h, keepGo_true x E (fun q hq => by have := hp.1 q hq; omega)]
  rfl
theorem keepGo_gt {x p : Ent} {E : List Ent} (h : ¬ x.story ≤ p.story) : keepGo x (p :: E) false = p :: keepGo x E false := by
  conv => lhs; unfold keepGo
  rw [if_neg (fun h' => h h'.2), if_pos (by omega), show (false || decide (x.story ≤ p.story)) = false by simpa using h]
  rfl
theorem mem_keepGo {x q : Ent} : ∀ {E : List Ent}, Sorted E → q ∈ keepGo x E false → q = x ∨ q ∈ E
  | [], _, h => by
    left
    simpa [keepGo] using h
  | p :: E, hs, h => by
    by_cases hl : x.story ≤ p.story
    · rw [keepGo_le hs hl] at h
      rcases List.mem_cons.1 h with h | h
      · exact .inl h
      · rcases List.mem_append.1 h with h | h
        · split at h
          · exact .inr (by rw [List.mem_singleton.1 h]; exact List.mem_cons_self ..)
          · cases h
        · exact .inr (List.mem_cons_of_mem _ h)
    · rw [keepGo_gt hl] at h
      rcases List.mem_cons.1 h with h | h
      · exact .inr (by rw [h]; exact List.mem_cons_self ..)
      · exact (mem_keepGo (List.pairwise_cons.1 hs).2 h).imp id (List.mem_cons_of_mem _)
theorem sorted_keep (x : Ent) : ∀ {E : List Ent}, Sorted E → Sorted (keepF E x)
  | [], _ => by simp [keepF, keepGo, Sorted]
  | p :: E, hs => by
    have hp := List.pairwise_cons.1 hs
    unfold keepF
    by_cases hl : x.story ≤ p.story
    · rw [keepGo_le hs hl]
      by_cases he : p.story = x.story
      · rw [if_neg (by simpa using he)]
        exact List.pairwise_cons.2 ⟨fun q hq => by have := hp.1 q (by simpa using hq); omega, by simpa using hp.2⟩
      · rw [if_pos he]
        refine List.pairwise_cons.2 ⟨fun q hq => ?_, hs⟩
        rcases List.mem_cons.1 (by simpa using hq) with rfl | hq
        · omega
        · have := hp.1 q hq; omega
    · rw [keepGo_gt hl]
      refine List.pairwise_cons.2 ⟨fun q hq => ?_, sorted_keep x hp.2⟩
      rcases mem_keepGo hp.2 hq with rfl | hq
      · omega
      · exact hp.1 q hq
theorem entry_cons (p : Ent) (E : List Ent) (k : Int) : entryF (p :: E) k = if p.story = k then p else entryF E k := by
  unfold entryF
  by_cases h : p.story = k
  · simp [h]
  · have e : (p.story == k) = false := by simpa using h
    simp [List.find?_cons, e, h]
theorem entry_none {E : List Ent} {k : Int} (h : ∀ q ∈ E, q.story ≠ k) : entryF E k = noEnt k := by
  induction E with
  | nil => rfl
  | cons p E ih => rw [entry_cons, if_neg (h p (List.mem_cons_self ..)), ih (fun q hq => h q (List.mem_cons_of_mem _ hq))]
theorem entry_keep (x : Ent) (k : Int) : ∀ {E : List Ent}, Sorted E → entryF (keepF E x) k = if x.story = k then x else entryF E k
  | [], _ => by
    unfold keepF
    simp only [keepGo]
    rw [if_neg (by simp), entry_cons]
  | p :: E, hs => by
    have hp := List.pairwise_cons.1 hs
    unfold keepF
    by_cases hl : x.story ≤ p.story
    · rw [keepGo_le hs hl, entry_cons]
      by_cases hx : x.story = k
      · rw [if_pos hx, if_pos hx]
      · rw [if_neg hx, if_neg hx]
        by_cases he : p.story = x.story
        · rw [if_neg (by simpa using he), List.nil_append, entry_cons, if_neg (by omega)]
        · rw [if_pos he]
          rfl
    · rw [keepGo_gt hl, entry_cons, entry_cons]
      by_cases hk : p.story = k
      · rw [if_pos hk, if_neg (by omega), if_pos hk]
      · rw [if_neg hk, if_neg hk]
        exact entry_keep x k hp.2
def heldOf (e : Ent) : Held := ⟨e.seq, e.text, e.has⟩
/-- The map and the list keep the same. -/
structure Rel (l : List (Int × Held)) (E : List Ent) : Prop where
  st : ∀ k, mapAt l k = heldOf (entryF E k)
  sorted : Sorted E
  range : ∀ e ∈ E, 1 ≤ e.story ∧ e.story ≤ 64
theorem Rel.nil : Rel [] [] := ⟨fun k => rfl, List.Pairwise.nil, by simp⟩
theorem Rel.put {l : List (Int × Held)} {E : List Ent} (h : Rel l E) (x : Ent) (hr : 1 ≤ x.story ∧ x.story ≤ 64) : Rel (mapPut l x.story (heldOf x)) (keepF E x) := by
  refine ⟨fun k => ?_, sorted_keep x h.sorted, fun e he => ?_⟩
  · rw [mapAt_put, entry_keep x k h.sorted]
    by_cases hk : k = x.story
    · rw [if_pos hk, if_pos hk.symm]
    · rw [if_neg hk, if_neg (Ne.symm hk), h.st]
  · rcases mem_keepGo h.sorted he with rfl | he
    · exact hr
    · exact h.range e he
theorem valid_story {m : Msg} (h : validM m = true) : 1 ≤ m.story ∧ m.story ≤ 64 := by
  unfold validM at h
  simp only [Bool.and_eq_true] at h
  have := h.1.1.1.2
  unfold withinB at this
  simpa using this
theorem Rel.recv {l : List (Int × Held)} {E : List Ent} (h : Rel l E) (id : Int) (m : Msg) : (recvF id l m).1 = (recvR id E m).1 ∧ Rel (recvF id l m).2 (recvR id E m).2 := by
  unfold recvF recvR
  by_cases h1 : validM m = false ∨ m.partner ≠ id ∨ (m.kind ≠ 1 ∧ m.kind ≠ 2)
  · rw [if_pos h1, if_pos h1]; exact ⟨rfl, h⟩
  rw [if_neg h1, if_neg h1, h.st]
  have hv : validM m = true := by
    cases hc : validM m
    · exact absurd (.inl hc) h1
    · rfl
  have hr := valid_story hv
  obtain ⟨x, hx⟩ : ∃ x, entryF E m.story = x := ⟨_, rfl⟩
  rw [hx]
  have e1 : (heldOf x).seq = x.seq := rfl
  have e2 : (heldOf x).text = x.text := rfl
  rw [e1, e2]
  by_cases h2 : m.seq < x.seq
  · rw [if_pos h2, if_pos h2]; exact ⟨rfl, h⟩
  rw [if_neg h2, if_neg h2]
  by_cases h3 : m.seq = x.seq
  · rw [if_pos h3, if_pos h3]; exact ⟨rfl, h⟩
  rw [if_neg h3, if_neg h3]
  by_cases h4 : m.kind = 2
  · rw [if_pos h4, if_pos h4]; exact ⟨rfl, h.put ⟨m.story, m.seq, false, .empty⟩ hr⟩
  rw [if_neg h4, if_neg h4]
  have eb : baseF (heldOf x) m = (if m.base = 0 then .empty else x.text) := rfl
  obtain ⟨b, hb⟩ : ∃ b, (if m.base = 0 then ByteArray.empty else x.text) = b := ⟨_, rfl⟩
  unfold delivF
  rw [eb, hb]
  by_cases h5 : sumB b ≠ m.base
  · rw [if_pos h5, if_pos rfl, if_pos (.inl h5)]; exact ⟨rfl, h⟩
  rw [if_neg h5]
  by_cases h6 : (applyF b m.data).2 = 0 ∧ sumB (applyF b m.data).1 = m.version
  · have ed : (decide ((applyF b m.data).2 = 0) && decide (sumB (applyF b m.data).1 = m.version)) = true := by simp [h6.1, h6.2]
    simp only [ed]
    rw [if_neg (by simp), if_neg (fun hc => hc.elim h5 (fun hc => hc.elim (fun hc => hc h6.1) (fun hc => hc h6.2)))]
    exact ⟨rfl, h.put ⟨m.story, m.seq, true, _⟩ hr⟩
  · have ed : (decide ((applyF b m.data).2 = 0) && decide (sumB (applyF b m.data).1 = m.version)) = false := by
      rw [Bool.and_eq_false_iff]
      simp only [decide_eq_false_iff_not]
      by_cases h7 : (applyF b m.data).2 = 0
      · exact .inr (fun h8 => h6 ⟨h7, h8⟩)
      · exact .inl h7
    simp only [ed]
    rw [if_pos trivial, if_pos (by
      by_cases h7 : (applyF b m.data).2 = 0
      · exact .inr (.inr (fun h8 => h6 ⟨h7, h8⟩))
      · exact .inr (.inl h7))]
    exact ⟨rfl, h⟩
theorem fm_congr {α β : Type} {f g : α → Option β} : ∀ {l : List α}, (∀ x ∈ l, f x = g x) → l.filterMap f = l.filterMap g
  | [], _ => rfl
  | x :: l, h => by
    rw [List.filterMap_cons, List.filterMap_cons, h x (List.mem_cons_self ..), fm_congr (fun y hy => h y (List.mem_cons_of_mem _ hy))]
/-- The copies by ascending story. -/
def itemsF (l : List (Int × Held)) : List (Int × ByteArray) := (List.range 64).filterMap fun (i : Nat) => if (mapAt l ((i : Int) + 1)).has then some ((i : Int) + 1, (mapAt l ((i : Int) + 1)).text) else none
def itemsR (E : List Ent) : List (Int × ByteArray) := (E.filter fun e => e.has).map fun e => (e.story, e.text)
theorem items_go : ∀ (n a : Nat) (E : List Ent), Sorted E → (∀ e ∈ E, (a : Int) + 1 ≤ e.story ∧ e.story ≤ a + n) →
    (List.range' a n).filterMap (fun (i : Nat) => if (entryF E ((i : Int) + 1)).has then some ((i : Int) + 1, (entryF E ((i : Int) + 1)).text) else none) = itemsR E
  | 0, a, E, _, hr => by
    cases E with
    | nil => rfl
    | cons e E => have := hr e (List.mem_cons_self ..); omega
  | n + 1, a, E, hs, hr => by
    rw [List.range'_succ, List.filterMap_cons]
    cases E with
    | nil =>
      have e0 : ∀ k, (entryF [] k).has = false := fun _ => rfl
      simp only [e0]
      have := items_go n (a + 1) [] List.Pairwise.nil (by simp)
      simp only [e0] at this
      simpa using this
    | cons e E =>
      have hp := List.pairwise_cons.1 hs
      have he := hr e (List.mem_cons_self ..)
      by_cases h : e.story = (a : Int) + 1
      · have ht := items_go n (a + 1) E hp.2 (fun q hq => by have := hp.1 q hq; have := hr q (List.mem_cons_of_mem _ hq); omega)
        have hc : ∀ i ∈ List.range' (a + 1) n, entryF (e :: E) ((i : Int) + 1) = entryF E ((i : Int) + 1) := fun i hi => by
          have := List.mem_range'.1 hi
          rw [entry_cons, if_neg (by omega)]
        have hcong : (List.range' (a + 1) n).filterMap (fun (i : Nat) => if (entryF (e :: E) ((i : Int) + 1)).has then some ((i : Int) + 1, (entryF (e :: E) ((i : Int) + 1)).text) else none) = (List.range' (a + 1) n).filterMap (fun (i : Nat) => if (entryF E ((i : Int) + 1)).has then some ((i : Int) + 1, (entryF E ((i : Int) + 1)).text) else none) :=
          fm_congr (fun i hi => by rw [hc i hi])
        rw [hcong, ht, entry_cons, if_pos h]
        unfold itemsR
        cases hh : e.has
        · simp [hh]
        · simp [hh, h]
      · have ht := items_go n (a + 1) (e :: E) hs (fun q hq => by
          have h1 := hr q hq
          rcases List.mem_cons.1 hq with rfl | hq
          · omega
          · have := hp.1 q hq; omega)
        have h0 : entryF (e :: E) ((a : Int) + 1) = noEnt ((a : Int) + 1) := entry_none (fun q hq => by
          rcases List.mem_cons.1 hq with rfl | hq
          · omega
          · have := hp.1 q hq; omega)
        rw [h0]
        simp only [noEnt]
        simpa using ht
theorem Rel.items {l : List (Int × Held)} {E : List Ent} (h : Rel l E) : itemsF l = itemsR E := by
  have := items_go 64 0 E h.sorted (fun e he => by have := h.range e he; omega)
  rw [← this]
  unfold itemsF
  rw [List.range_eq_range']
  apply fm_congr
  intro i _
  rw [h.st]
  rfl
end Go.Proofs.YtkpgadjhcnkadaaDoor
