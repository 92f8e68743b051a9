/- The plain laws of rights: containment is an order, and gives no more. -/
import Derived.Test.YtmdjndhebgnjoaaDoorRightC
namespace Go.Proofs.YtmdjndhebgnjoaaDoor
set_option linter.unusedVariables false
set_option linter.unusedSimpArgs false
open Go.RowKit Go.Shelf
theorem wrap_key (x : Int) (X : BitVec 64) (h1 : -9223372036854775808 ≤ x) (h2 : x ≤ 9223372036854775807) : IntKind.i64.wrap (X.toNat : Int) = x ↔ X = BitVec.ofInt 64 x := by
  have e : IntKind.i64.wrap (X.toNat : Int) = X.toInt := by
    rw [IntKind.wrap_i64, BitVec.toInt_eq_toNat_cond]
    have := X.isLt
    split <;> omega
  rw [e]
  constructor
  · intro h; rw [← h, BitVec.ofInt_toInt]
  · intro h; rw [h, BitVec.toInt_ofInt]
    simp [Int.bmod]; omega
def wfI (x : Int) : Prop := (Lit.int .i64 x).wf = true
theorem wfI_iff (x : Int) : wfI x ↔ -9223372036854775808 ≤ x ∧ x ≤ 9223372036854775807 := by
  simp [wfI, Lit.wf, IntKind.min, IntKind.max, IntKind.signed, IntKind.bits]
theorem hasR_iff (a b : Int) (hb : wfI b) : hasR a b = true ↔ BitVec.ofInt 64 a &&& BitVec.ofInt 64 b = BitVec.ofInt 64 b := by
  rw [wfI_iff] at hb
  unfold hasR
  rw [beq_iff_eq]
  exact wrap_key b _ hb.1 hb.2
theorem hasR_refl (a : Int) (ha : wfI a) : hasR a a = true := by rw [hasR_iff a a ha, BitVec.and_self]
theorem hasR_trans (a b c : Int) (hb : wfI b) (hc : wfI c) (h : hasR a b = true) (k : hasR b c = true) : hasR a c = true := by
  rw [hasR_iff _ _ hb] at h
  rw [hasR_iff _ _ hc] at k ⊢
  rw [← k, ← BitVec.and_assoc, h, k]
theorem pre_refl (s : ByteArray) : pre s s = true := by rw [pre_iff]; exact List.prefix_refl _
theorem pre_trans (s p q : ByteArray) (h : pre s p = true) (k : pre p q = true) : pre s q = true := by
  rw [pre_iff] at *
  exact k.trans h
theorem str_ext {a b : ByteArray} (h : (a.toList == b.toList) = true) : a = b := by
  have := beq_iff_eq.1 h
  rw [ByteArray.toList_eq, ByteArray.toList_eq] at this
  exact ByteArray.ext (Array.toList_inj.1 this)
theorem holdsS_iff (p : ByteArray) (x : Bool) (s : ByteArray) : holdsS p x s = true ↔ (x = true ∧ s = p) ∨ (x = false ∧ pre s p = true) := by
  cases x with
  | true =>
    simp only [holdsS, if_true]
    constructor
    · intro h; exact .inl ⟨by simp, str_ext h⟩
    · rintro (⟨_, rfl⟩ | ⟨h, _⟩)
      · simp
      · cases h
  | false => simp [holdsS]
theorem withinS_iff (p : ByteArray) (x : Bool) (q : ByteArray) (y : Bool) : withinS p x q y = true ↔ (x = true ∧ y = true ∧ q = p) ∨ (x = false ∧ pre q p = true) := by
  unfold withinS
  cases x <;> cases y <;> simp [holdsS_iff]
theorem withinS_refl (p : ByteArray) (x : Bool) : withinS p x p x = true := by
  rw [withinS_iff]
  cases x
  · exact .inr ⟨rfl, pre_refl p⟩
  · exact .inl ⟨rfl, rfl, rfl⟩
theorem withinS_trans (p : ByteArray) (x : Bool) (q : ByteArray) (y : Bool) (s : ByteArray) (z : Bool) (h : withinS p x q y = true) (k : withinS q y s z = true) : withinS p x s z = true := by
  rw [withinS_iff] at *
  rcases h with ⟨h1, h2, rfl⟩ | ⟨h1, h2⟩
  · rcases k with ⟨_, k2, rfl⟩ | ⟨k1, _⟩
    · exact .inl ⟨h1, k2, rfl⟩
    · rw [h2] at k1; cases k1
  · rcases k with ⟨_, _, rfl⟩ | ⟨_, k2⟩
    · exact .inr ⟨h1, h2⟩
    · exact .inr ⟨h1, pre_trans _ _ _ k2 h2⟩
theorem withinS_holds (p : ByteArray) (x : Bool) (q : ByteArray) (y : Bool) (s : ByteArray) (h : withinS p x q y = true) (k : holdsS q y s = true) : holdsS p x s = true := by
  rw [withinS_iff] at h
  rw [holdsS_iff] at *
  rcases h with ⟨h1, h2, rfl⟩ | ⟨h1, h2⟩
  · rcases k with ⟨_, rfl⟩ | ⟨k1, _⟩
    · exact .inl ⟨h1, rfl⟩
    · rw [h2] at k1; cases k1
  · rcases k with ⟨_, rfl⟩ | ⟨_, k2⟩
    · exact .inr ⟨h1, h2⟩
    · exact .inr ⟨h1, pre_trans _ _ _ k2 h2⟩
section
variable (r : Int) (p : ByteArray) (x : Bool) (u r' : Int) (p' : ByteArray) (x' : Bool) (u' : Int) (r2 : Int) (p2 : ByteArray) (x2 : Bool) (u2 : Int)
theorem narrow_split : narrowG r p x u r' p' x' u' = true ↔ (u = 0 ∨ (1 ≤ u' ∧ u' ≤ u)) ∧ hasR r r' = true ∧ withinS p x p' x' = true := by
  unfold narrowG earlyG
  rw [Bool.and_eq_true, Bool.and_eq_true, decide_eq_true_eq, and_assoc]
theorem narrow_refl (h : checkG r p x u = 0) : narrowG r p x u r p x u = true := by
  have ho : okG r p x u = true := by
    unfold checkG at h
    split at h
    · assumption
    · cases h
  simp only [okG, Bool.and_eq_true, decide_eq_true_eq] at ho
  obtain ⟨⟨h1, h2, h3, h4⟩, _⟩ := ho
  rw [narrow_split]
  exact ⟨by omega, hasR_refl r ((wfI_iff r).2 ⟨by omega, by omega⟩), withinS_refl p x⟩
theorem narrow_trans (hb : wfI r') (hc : wfI r2) (h : narrowG r p x u r' p' x' u' = true) (k : narrowG r' p' x' u' r2 p2 x2 u2 = true) : narrowG r p x u r2 p2 x2 u2 = true := by
  rw [narrow_split] at *
  exact ⟨by omega, hasR_trans _ _ _ hb hc h.2.1 k.2.1, withinS_trans _ _ _ _ _ _ h.2.2 k.2.2⟩
theorem narrow_covers (hb : wfI r') (q : Int) (hq : wfI q) (s : ByteArray) (h : narrowG r p x u r' p' x' u' = true) (k : coversG r' p' x' q s = true) : coversG r p x q s = true := by
  rw [narrow_split] at h
  unfold coversG at *
  rw [Bool.and_eq_true] at *
  exact ⟨hasR_trans _ _ _ hb hq h.2.1 k.1, withinS_holds _ _ _ _ _ h.2.2 k.2⟩
theorem narrow_both (ha : wfI r) (hb : wfI r') (q : Int) (hq : wfI q) (s : ByteArray) (h : narrowG r p x u r' p' x' u' = true) (k : narrowG r' p' x' u' r p x u = true) : coversG r p x q s = coversG r' p' x' q s := by
  rw [Bool.eq_iff_iff]
  exact ⟨fun c => narrow_covers _ _ _ _ _ _ _ _ ha q hq s k c, fun c => narrow_covers _ _ _ _ _ _ _ _ hb q hq s h c⟩
theorem narrow_whole (h : narrowG r p x u r' p' x' u' = true) (k : wholeG p' x' = true) : wholeG p x = true := by
  rw [narrow_split] at h
  have h2 := h.2.2
  rw [withinS_iff] at h2
  unfold wholeG at *
  rw [Bool.and_eq_true] at *
  rcases h2 with ⟨h1, h2, _⟩ | ⟨h1, h2⟩
  · rw [h2] at k; simp at k
  · refine ⟨?_, by rw [h1]; rfl⟩
    rw [pre_iff] at h2
    have h3 := k.1
    rw [List.isEmpty_iff, ByteArray.toList_eq] at h3 ⊢
    rw [h3] at h2
    exact List.prefix_nil.1 h2
/-- b's time not over: a's is not. -/
def lastsG (u clock : Int) : Bool := decide (u = 0 ∨ clock ≤ u)
theorem narrow_lasts (c : Int) (h : narrowG r p x u r' p' x' u' = true) (k : lastsG u' c = true) : lastsG u c = true := by
  rw [narrow_split] at h
  unfold lastsG at *
  rw [decide_eq_true_eq] at *
  omega
end
end Go.Proofs.YtmdjndhebgnjoaaDoor
