/- Names, without the program: letters, signs, what trimming a text leaves. -/
import Derived.Lib.SlTrimSet
import Derived.Lib.IndexAny
namespace Go.Proofs.YtmdjndhebgnjoaaDoor
set_option linter.unusedVariables false
set_option linter.unusedSimpArgs false
def letters : List UInt8 := [97, 98, 99, 100, 101, 102, 103, 104, 105, 106, 107, 108, 109, 110, 111, 112, 113, 114, 115, 116, 117, 118, 119, 120, 121, 122]
def signs : List UInt8 := [97, 98, 99, 100, 101, 102, 103, 104, 105, 106, 107, 108, 109, 110, 111, 112, 113, 114, 115, 116, 117, 118, 119, 120, 121, 122, 48, 49, 50, 51, 52, 53, 54, 55, 56, 57, 45, 46]
def isLetter (b : UInt8) : Bool := decide (97 ≤ b.toNat ∧ b.toNat ≤ 122)
def isSign (b : UInt8) : Bool := isLetter b || decide (48 ≤ b.toNat ∧ b.toNat ≤ 57) || decide (b.toNat = 45) || decide (b.toNat = 46)
/-- A name. -/
def nm (l : List UInt8) : Bool := decide (1 ≤ l.length ∧ l.length ≤ 24) && isLetter (l.headD 0) && l.all isSign
theorem letters_fin : ∀ n : Fin 256, letters.contains (UInt8.ofNat n.1) = isLetter (UInt8.ofNat n.1) := by decide +kernel
theorem signs_fin : ∀ n : Fin 256, signs.contains (UInt8.ofNat n.1) = isSign (UInt8.ofNat n.1) := by decide +kernel
theorem letters_is (b : UInt8) : letters.contains b = isLetter b := by
  have h := letters_fin ⟨b.toNat, b.toNat_lt⟩
  rwa [UInt8.ofNat_toNat] at h
theorem signs_is (b : UInt8) : signs.contains b = isSign b := by
  have h := signs_fin ⟨b.toNat, b.toNat_lt⟩
  rwa [UInt8.ofNat_toNat] at h
theorem index_letters (b : UInt8) : decide (0 ≤ Lib.indexByte letters b) = isLetter b := by
  rw [← Lib.contains_iff_indexByte, letters_is]
theorem dropWhile_nil {α : Type} (p : α → Bool) : ∀ l : List α, l.dropWhile p = [] ↔ ∀ x ∈ l, p x = true
  | [] => by simp
  | a :: l => by
    rw [List.dropWhile_cons]
    by_cases h : p a = true
    · rw [if_pos h, dropWhile_nil p l]; simp [h]
    · rw [if_neg h]; simp [h]
theorem dropWhile_head {α : Type} (p : α → Bool) : ∀ (l : List α) (a : α) (r : List α), l.dropWhile p = a :: r → p a = false
  | [], a, r, h => by simp at h
  | b :: l, a, r, h => by
    rw [List.dropWhile_cons] at h
    by_cases hb : p b = true
    · rw [if_pos hb] at h; exact dropWhile_head p l a r h
    · rw [if_neg hb] at h
      injection h with h1 h2
      rw [← h1]; simpa using hb
theorem trim_nil (l : List UInt8) : (Lib.trimS l signs).isEmpty = l.all isSign := by
  rw [Bool.eq_iff_iff, List.isEmpty_iff, List.all_eq_true]
  have hs : (fun b : UInt8 => signs.contains b) = isSign := funext signs_is
  unfold Lib.trimS Lib.trimLeftS Lib.trimRightS
  rw [hs]
  constructor
  · intro h
    rw [dropWhile_nil] at h
    cases hd : l.reverse.dropWhile isSign with
    | nil =>
      rw [dropWhile_nil] at hd
      exact fun x hx => hd x (by simpa using hx)
    | cons a r =>
      have h1 := dropWhile_head _ _ _ _ hd
      rw [hd] at h
      have h2 := h a (by simp)
      rw [h1] at h2; cases h2
  · intro h
    have : l.reverse.dropWhile isSign = [] := (dropWhile_nil _ _).2 (fun x hx => h x (by simpa using hx))
    rw [this]; rfl
end Go.Proofs.YtmdjndhebgnjoaaDoor
