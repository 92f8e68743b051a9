/- Records: which fields may have a value. -/
import Derived.Test.YtkmjnbfhfjafpaaDoorRecPure
namespace Go.Proofs.YtkmjnbfhfjafpaaDoor
set_option linter.unusedVariables false
set_option linter.unusedSimpArgs false
open Go.RowKit
structure Fine (r : Rec) : Prop where
  ten : nm r.ten.data.toList = true
  st : namedG r.st = true
  su : namedG r.su = true
  kind : 1 ≤ r.kind ∧ r.kind ≤ 8
  clock : 0 ≤ r.clock ∧ r.clock ≤ 1099511627776
  id : 0 ≤ r.id ∧ r.id ≤ 1099511627776
  num : 0 ≤ r.num ∧ r.num ≤ 1099511627776
  code : 0 ≤ r.code ∧ r.code ≤ 25
  slot : 0 ≤ r.slot ∧ r.slot ≤ 64
  uses : 0 ≤ r.uses ∧ r.uses ≤ 200
  n : r.sealed.length ≤ 4
  m : r.sealed.any longB = false
  miss : missesG r = false
theorem odd_no (a b : Int) : oddB (a, b) = false ↔ 0 ≤ a ∧ a ≤ b := by
  unfold oddB
  simp only [Bool.or_eq_false_iff, decide_eq_false_iff_not]
  omega
theorem fine_iff (r : Rec) : checkG r = 0 ↔ Fine r := by
  unfold checkG
  constructor
  · intro h
    by_cases h1 : nm r.ten.data.toList = false
    · rw [if_pos h1] at h; cases h
    rw [if_neg h1] at h
    by_cases h2 : namedG r.st = false
    · rw [if_pos h2] at h; cases h
    rw [if_neg h2] at h
    by_cases h3 : namedG r.su = false
    · rw [if_pos h3] at h; cases h
    rw [if_neg h3] at h
    by_cases h4 : r.kind < 1 ∨ 8 < r.kind
    · rw [if_pos h4] at h; cases h
    rw [if_neg h4] at h
    by_cases h5 : (boundsG r).any oddB = true
    · rw [if_pos h5] at h; cases h
    rw [if_neg h5] at h
    by_cases h6 : 4 < r.sealed.length
    · rw [if_pos h6] at h; cases h
    rw [if_neg h6] at h
    by_cases h7 : r.sealed.any longB = true
    · rw [if_pos h7] at h; cases h
    rw [if_neg h7] at h
    by_cases h8 : missesG r = true
    · rw [if_pos h8] at h; cases h
    have h5 : (boundsG r).any oddB = false := by simpa using h5
    unfold boundsG at h5
    simp only [List.any_cons, List.any_nil, Bool.or_false, Bool.or_eq_false_iff, odd_no] at h5
    obtain ⟨b1, b2, b3, b4, b5, b6⟩ := h5
    exact ⟨by simpa using h1, by simpa using h2, by simpa using h3, by omega, b1, b2, b3, b4, b5, b6, by omega, by simpa using h7, by simpa using h8⟩
  · rintro ⟨h1, h2, h3, h4, h5, h6, h7, h8, h9, h10, h11, h12, h13⟩
    have hb : (boundsG r).any oddB = false := by
      unfold boundsG
      simp only [List.any_cons, List.any_nil, Bool.or_false, Bool.or_eq_false_iff, odd_no]
      exact ⟨h5, h6, h7, h8, h9, h10⟩
    rw [if_neg (by rw [h1]; decide), if_neg (by rw [h2]; decide), if_neg (by rw [h3]; decide), if_neg (by omega), if_neg (by rw [hb]; decide), if_neg (by omega), if_neg (by rw [h12]; decide), if_neg (by rw [h13]; decide)]
theorem miss_iff (r : Rec) : missesG r = false ↔ ((r.code = 0 ∧ r.kind = 1 ↔ 0 < r.sealed.length) ∧ (r.num = 0 ∨ (r.code = 0 ∧ (r.kind = 5 ∨ r.kind = 6))) ∧ ((r.code = 0 ∧ r.kind = 1) ∨ (r.slot = 0 ∧ r.uses = 0))) := by
  unfold missesG
  by_cases h1 : r.code = 0 <;> by_cases h2 : r.kind = 1 <;> by_cases h3 : 0 < r.sealed.length <;> by_cases h4 : r.num = 0 <;> by_cases h5 : r.kind = 5 <;> by_cases h6 : r.kind = 6 <;> by_cases h7 : r.slot = 0 <;> by_cases h8 : r.uses = 0 <;> simp [h1, h2, h3, h4, h5, h6, h7, h8] <;> omega
def appR (r : Rec) : Prop := r.code = 0 ∧ r.kind = 1
def numR (r : Rec) : Prop := r.code = 0 ∧ (r.kind = 5 ∨ r.kind = 6)
def bareR (r : Rec) : Prop := r.slot = 0 ∧ r.uses = 0 ∧ r.num = 0 ∧ r.sealed.length = 0
theorem app_len {r : Rec} (h : checkG r = 0) : appR r ↔ 0 < r.sealed.length := ((miss_iff r).1 ((fine_iff r).1 h).miss).1
theorem set_slot {r : Rec} (h : checkG r = 0) (n : Int) (h1 : 1 ≤ n) (h2 : n ≤ 64) : checkG { r with slot := n } = 0 ↔ appR r := by
  have f := (fine_iff r).1 h
  have g := (miss_iff r).1 f.miss
  constructor
  · intro k
    have k := (miss_iff _).1 ((fine_iff _).1 k).miss
    rcases k.2.2 with k | k
    · exact k
    · have : n = 0 := k.1; omega
  · intro k
    exact (fine_iff _).2 ⟨f.1, f.2, f.3, f.4, f.5, f.6, f.7, f.8, ⟨by show 0 ≤ n; omega, h2⟩, f.10, f.11, f.12, (miss_iff _).2 ⟨g.1, g.2.1, .inl k⟩⟩
theorem set_uses {r : Rec} (h : checkG r = 0) (n : Int) (h1 : 1 ≤ n) (h2 : n ≤ 64) : checkG { r with uses := n } = 0 ↔ appR r := by
  have f := (fine_iff r).1 h
  have g := (miss_iff r).1 f.miss
  constructor
  · intro k
    have k := (miss_iff _).1 ((fine_iff _).1 k).miss
    rcases k.2.2 with k | k
    · exact k
    · have : n = 0 := k.2; omega
  · intro k
    exact (fine_iff _).2 ⟨f.1, f.2, f.3, f.4, f.5, f.6, f.7, f.8, f.9, ⟨by show 0 ≤ n; omega, by show n ≤ 200; omega⟩, f.11, f.12, (miss_iff _).2 ⟨g.1, g.2.1, .inl k⟩⟩
theorem set_num {r : Rec} (h : checkG r = 0) (n : Int) (h1 : 1 ≤ n) (h2 : n ≤ 64) : checkG { r with num := n } = 0 ↔ numR r := by
  have f := (fine_iff r).1 h
  have g := (miss_iff r).1 f.miss
  constructor
  · intro k
    have k := (miss_iff _).1 ((fine_iff _).1 k).miss
    rcases k.2.1 with k | k
    · have : n = 0 := k; omega
    · exact k
  · intro k
    exact (fine_iff _).2 ⟨f.1, f.2, f.3, f.4, f.5, f.6, ⟨by show 0 ≤ n; omega, by show n ≤ 1099511627776; omega⟩, f.8, f.9, f.10, f.11, f.12, (miss_iff _).2 ⟨g.1, .inr k, g.2.2⟩⟩
theorem set_code {r : Rec} (h : checkG r = 0) (n : Int) (h1 : 1 ≤ n) (h2 : n ≤ 25) : checkG { r with code := n } = 0 ↔ bareR r := by
  have f := (fine_iff r).1 h
  constructor
  · intro k
    have k := (miss_iff _).1 ((fine_iff _).1 k).miss
    obtain ⟨k1, k2, k3⟩ := k
    simp only at k1 k2 k3
    unfold bareR
    omega
  · intro k
    unfold bareR at k
    refine (fine_iff _).2 ⟨f.1, f.2, f.3, f.4, f.5, f.6, f.7, ⟨by show 0 ≤ n; omega, h2⟩, f.9, f.10, f.11, f.12, (miss_iff _).2 ?_⟩
    simp only
    omega
end Go.Proofs.YtkmjnbfhfjafpaaDoor
