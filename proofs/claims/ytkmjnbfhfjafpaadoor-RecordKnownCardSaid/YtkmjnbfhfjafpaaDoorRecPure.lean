/- Records: what was put is got again, what is got may be put; cut short, with bytes behind. -/
import Derived.Test.YtkmjnbfhfjafpaaDoorCodec
namespace Go.Proofs.YtkmjnbfhfjafpaaDoor
set_option linter.unusedVariables false
set_option linter.unusedSimpArgs false
open Go.RowKit
abbrev RecT := ByteArray × Int × Int × Int × Int × ByteArray × ByteArray × Int × Int × Int × List (List UInt8)
def toRec (p : RecT) : Rec := ⟨p.1, p.2.1, p.2.2.1, p.2.2.2.1, p.2.2.2.2.1, p.2.2.2.2.2.1, p.2.2.2.2.2.2.1, p.2.2.2.2.2.2.2.1, p.2.2.2.2.2.2.2.2.1, p.2.2.2.2.2.2.2.2.2.1, p.2.2.2.2.2.2.2.2.2.2⟩
def ofRec (r : Rec) : RecT := (r.ten, r.clock, r.kind, r.code, r.id, r.st, r.su, r.slot, r.uses, r.num, r.sealed)
def recTS : St → RecT × St := pairS (textS 24) (pairS intS (pairS intS (pairS intS (pairS intS (pairS (textS 24) (pairS (textS 24) (pairS intS (pairS intS (pairS intS (listS 4 (blobS 272)))))))))))
def recS (s : St) : Rec × St := (toRec (recTS s).1, (recTS s).2)
theorem blobsS_many (most : Int) : ∀ k s, blobsS most k s = manyS (blobS most) k s
  | 0, s => rfl
  | k + 1, s => by unfold blobsS manyS; rw [blobsS_many most k s]
theorem getRec_is (b : List UInt8) : getRec b = recS (b, 0) := by
  obtain ⟨⟨t0, s0⟩, h0⟩ : ∃ p, textS 24 (b, 0) = p := ⟨_, rfl⟩
  obtain ⟨⟨x1, s1⟩, h1⟩ : ∃ p, intS s0 = p := ⟨_, rfl⟩
  obtain ⟨⟨x2, s2⟩, h2⟩ : ∃ p, intS s1 = p := ⟨_, rfl⟩
  obtain ⟨⟨x3, s3⟩, h3⟩ : ∃ p, intS s2 = p := ⟨_, rfl⟩
  obtain ⟨⟨x4, s4⟩, h4⟩ : ∃ p, intS s3 = p := ⟨_, rfl⟩
  obtain ⟨⟨t5, s5⟩, h5⟩ : ∃ p, textS 24 s4 = p := ⟨_, rfl⟩
  obtain ⟨⟨t6, s6⟩, h6⟩ : ∃ p, textS 24 s5 = p := ⟨_, rfl⟩
  obtain ⟨⟨x7, s7⟩, h7⟩ : ∃ p, intS s6 = p := ⟨_, rfl⟩
  obtain ⟨⟨x8, s8⟩, h8⟩ : ∃ p, intS s7 = p := ⟨_, rfl⟩
  obtain ⟨⟨x9, s9⟩, h9⟩ : ∃ p, intS s8 = p := ⟨_, rfl⟩
  obtain ⟨n, hn, -⟩ := countS_nat 4 s9
  obtain ⟨s10, hs10⟩ : ∃ q, (countS ((4 : Nat) : Int) s9).2 = q := ⟨_, rfl⟩
  have h10 : countS 4 s9 = ((n : Int), s10) := by rw [← hn, ← hs10]; rfl
  obtain ⟨⟨l, s11⟩, h11⟩ : ∃ p, blobsS 272 n s10 = p := ⟨_, rfl⟩
  rw [getRec_eq h0 h1 h2 h3 h4 h5 h6 h7 h8 h9 h10 h11]
  rw [blobsS_many] at h11
  unfold recS recTS pairS listS toRec
  simp only [h0, h1, h2, h3, h4, h5, h6, h7, h8, h9, h10, h11, Int.toNat_natCast]
instance (v : Int) : Decidable (intOk v) := inferInstanceAs (Decidable (_ ∧ _))
structure RecFit (r : Rec) : Prop where
  ten : r.ten.size ≤ 24
  clock : intOk r.clock
  kind : intOk r.kind
  code : intOk r.code
  id : intOk r.id
  st : r.st.size ≤ 24
  su : r.su.size ≤ 24
  slot : intOk r.slot
  uses : intOk r.uses
  num : intOk r.num
  sealed : r.sealed.length ≤ 4 ∧ ∀ x ∈ r.sealed, x.length ≤ 272
theorem rec_codec : Codec recS recB RecFit := by
  have t := text_codec 24 (by decide)
  have h := (t.pair (int_codec.pair (int_codec.pair (int_codec.pair (int_codec.pair (t.pair (t.pair (int_codec.pair (int_codec.pair (int_codec.pair (list_codec (blob_codec 272 (by decide)) 4 (by decide))))))))))))
  have h2 := h.iso toRec ofRec (fun _ => rfl) (fun _ => rfl)
  have e : ∀ r : Rec, recB r = _ := fun r => (by
    show recB r = txtB r.ten ++ (num8 r.clock ++ (num8 r.kind ++ (num8 r.code ++ (num8 r.id ++ (txtB r.st ++ (txtB r.su ++ (num8 r.slot ++ (num8 r.uses ++ (num8 r.num ++ (num8 r.sealed.length ++ r.sealed.flatMap fun p => num8 p.length ++ p))))))))))
    simp [recB, numsB, blobsB])
  refine ⟨fun r rest hr => ?_, fun r k hr hk => ?_, h2.stuck, fun s r rest hs => ?_⟩
  · rw [e r]
    exact h2.full r rest ⟨hr.1, hr.2, hr.3, hr.4, hr.5, hr.6, hr.7, hr.8, hr.9, hr.10, hr.11⟩
  · rw [e r] at hk ⊢
    exact h2.cut r k ⟨hr.1, hr.2, hr.3, hr.4, hr.5, hr.6, hr.7, hr.8, hr.9, hr.10, hr.11⟩ hk
  · obtain ⟨h3, h4⟩ := h2.inv s r rest hs
    rw [e r]
    exact ⟨h3, ⟨h4.1, h4.2.1, h4.2.2.1, h4.2.2.2.1, h4.2.2.2.2.1, h4.2.2.2.2.2.1, h4.2.2.2.2.2.2.1, h4.2.2.2.2.2.2.2.1, h4.2.2.2.2.2.2.2.2.1, h4.2.2.2.2.2.2.2.2.2.1, h4.2.2.2.2.2.2.2.2.2.2⟩⟩
/-- The numbers of what came in are int's. -/
structure RecInts (r : Rec) : Prop where
  clock : intOk r.clock
  kind : intOk r.kind
  code : intOk r.code
  id : intOk r.id
  slot : intOk r.slot
  uses : intOk r.uses
  num : intOk r.num
theorem nm_le (l : List UInt8) (h : nm l = true) : l.length ≤ 24 := by
  unfold nm at h
  simp at h
  omega
theorem named_le (s : ByteArray) (h : namedG s = true) : s.size ≤ 24 := by
  have e : s.data.toList.length = s.size := by rw [Array.length_toList]; rfl
  unfold namedG at h
  rw [Bool.or_eq_true] at h
  rcases h with h | h
  · rw [ByteArray.toList_eq, beq_iff_eq] at h
    rw [h] at e
    simp at e
    omega
  · have := nm_le _ h
    omega
theorem fit_of {r : Rec} (h : checkG r = 0) (hi : RecInts r) : RecFit r := by
  have e : r.ten.data.toList.length = r.ten.size := by rw [Array.length_toList]; rfl
  unfold checkG at h
  by_cases h1 : nm r.ten.data.toList = false
  · rw [if_pos h1] at h; cases h
  rw [if_neg h1] at h
  by_cases h2 : namedG r.st = false
  · rw [if_pos h2] at h; cases h
  rw [if_neg h2] at h
  by_cases h3 : namedG r.su = false
  · rw [if_pos h3] at h; cases h
  rw [if_neg h3] at h
  by_cases h4 : r.kind < 1 ∨ 8 < r.kind
  · rw [if_pos h4] at h; cases h
  rw [if_neg h4] at h
  by_cases h5 : (boundsG r).any oddB = true
  · rw [if_pos h5] at h; cases h
  rw [if_neg h5] at h
  by_cases h6 : 4 < r.sealed.length
  · rw [if_pos h6] at h; cases h
  rw [if_neg h6] at h
  by_cases h7 : r.sealed.any longB = true
  · rw [if_pos h7] at h; cases h
  have := nm_le _ (by simpa using h1)
  refine ⟨by omega, hi.1, hi.2, hi.3, hi.4, named_le _ (by simpa using h2), named_le _ (by simpa using h3), hi.5, hi.6, hi.7, by omega, fun x hx => ?_⟩
  have h8 : r.sealed.any longB = false := by simpa using h7
  rw [List.any_eq_false] at h8
  have := h8 x hx
  unfold longB at this
  simpa using this
theorem RecFit.ints {r : Rec} (h : RecFit r) : RecInts r := ⟨h.2, h.3, h.4, h.5, h.8, h.9, h.10⟩
theorem endS_0 : endS ([], 0) = 0 := rfl
theorem get_back (r : Rec) (h : checkG r = 0) (hi : RecInts r) : getG (recB r) = (r, 0) := by
  have h1 : getRec (recB r) = (r, ([], 0)) := by
    rw [getRec_is]
    have := rec_codec.full r [] (fit_of h hi)
    rwa [List.append_nil] at this
  unfold getG
  rw [h1]
  simp only [endS_0, h]
  rfl
theorem get_more (r : Rec) (h : checkG r = 0) (hi : RecInts r) (m : List UInt8) (hm : m ≠ []) : getG (recB r ++ m) = (zeroR, 5) := by
  have h1 : getRec (recB r ++ m) = (r, (m, 0)) := by
    rw [getRec_is]
    exact rec_codec.full r m (fit_of h hi)
  have h2 : endS (m, 0) = 5 := by
    unfold endS
    rw [if_pos (List.length_pos_iff.2 hm)]
  unfold getG
  rw [h1]
  simp only [h2]
  rfl
theorem get_cut (r : Rec) (h : checkG r = 0) (hi : RecInts r) (k : Nat) (hk : k < (recB r).length) : getG ((recB r).take k) = (zeroR, 4) := by
  have h1 : (getRec ((recB r).take k)).2 = ([], 4) := by
    rw [getRec_is]
    exact rec_codec.cut r k (fit_of h hi) hk
  unfold getG
  rw [h1]
  rfl
theorem endS_zero {s : St} (h : endS s = 0) : s = ([], 0) := by
  obtain ⟨l, e⟩ := s
  unfold endS at h
  by_cases h0 : 0 < l.length
  · rw [if_pos h0] at h; cases h
  · rw [if_neg h0] at h
    have : l = [] := List.eq_nil_of_length_eq_zero (by omega)
    rw [this, show e = 0 from h]
theorem get_some {b : List UInt8} {r : Rec} (h : getG b = (r, 0)) : checkG r = 0 ∧ recB r = b ∧ RecFit r := by
  unfold getG at h
  by_cases h1 : endS (getRec b).2 ≠ 0
  · rw [if_pos h1] at h
    simp only [Prod.mk.injEq] at h
    exact absurd h.2 h1
  · rw [if_neg h1] at h
    by_cases h2 : checkG (getRec b).1 ≠ 0
    · rw [if_pos h2] at h
      simp only [Prod.mk.injEq] at h
      exact absurd h.2 h2
    · rw [if_neg h2] at h
      simp only [Prod.mk.injEq, and_true] at h
      have h3 := endS_zero (show endS (getRec b).2 = 0 from Decidable.not_not.1 h1)
      rw [h] at h2
      have h4 : recS (b, 0) = (r, ([], 0)) := by rw [← getRec_is, ← h, ← h3]
      obtain ⟨h5, h6⟩ := rec_codec.inv _ _ _ h4
      simp only [Prod.mk.injEq, List.append_nil, and_true] at h5
      exact ⟨Decidable.not_not.1 h2, h5.symm, h6⟩
theorem get_none {b : List UInt8} {r : Rec} {e : Int} (h : getG b = (r, e)) (he : e ≠ 0) : r = zeroR := by
  unfold getG at h
  split at h
  · simp only [Prod.mk.injEq] at h; exact h.1.symm
  · split at h
    · simp only [Prod.mk.injEq] at h; exact h.1.symm
    · simp only [Prod.mk.injEq] at h; exact absurd h.2.symm he
theorem zeroR_fit : RecFit zeroR := ⟨by decide, by decide, by decide, by decide, by decide, by decide, by decide, by decide, by decide, by decide, by decide, fun x hx => by cases hx⟩
theorem get_fit (b : List UInt8) : RecFit (getG b).1 := by
  obtain ⟨⟨r, e⟩, h⟩ : ∃ p, getG b = p := ⟨_, rfl⟩
  rw [h]
  by_cases he : e = 0
  · subst he
    exact (get_some h).2.2
  · show RecFit r
    rw [get_none h he]
    exact zeroR_fit
theorem RecFit.ok {r : Rec} (h : RecFit r) : RecOk r :=
  ⟨by have := h.1; omega, by have := h.6; omega, by have := h.7; omega, by have := h.11.1; omega, fun x hx => by have := h.11.2 x hx; omega, h.2, h.3, h.4, h.5, h.8, h.9, h.10⟩
def laidR : Rec := ⟨⟨#[97, 110, 110]⟩, 5, 1, 0, 1, ⟨#[108, 111, 103]⟩, ⟨#[98, 111, 98]⟩, 1, 0, 0, [[0]]⟩
def noneR : Rec := ⟨⟨#[97, 110, 110]⟩, 0, 2, 0, 0, ⟨#[]⟩, ⟨#[]⟩, 0, 0, 0, []⟩
theorem laid_check : checkG laidR = 0 := by
  unfold checkG namedG
  simp only [ByteArray.toList_eq]
  decide
theorem none_check : checkG noneR = 0 := by
  unfold checkG namedG
  simp only [ByteArray.toList_eq]
  decide
theorem laid_ints : RecInts laidR := ⟨by decide, by decide, by decide, by decide, by decide, by decide, by decide⟩
theorem none_len : (recB noneR).length = 91 := by
  unfold recB
  simp only [List.length_append, txtB_len, numsB_len]
  rfl
theorem recEq_refl (r : Rec) : recEq r r = true := by
  unfold recEq
  simp
theorem recEq_iff {r s : Rec} : recEq r s = true ↔ r = s := by
  constructor
  · intro h
    unfold recEq at h
    simp only [Bool.and_eq_true, beq_iff_eq, ByteArray.toList_eq] at h
    obtain ⟨a, b, c, d, e, f, g, i, j, k, l⟩ := h
    have ext : ∀ x y : ByteArray, x.data.toList = y.data.toList → x = y := fun x y h => ByteArray.ext (Array.toList_inj.1 h)
    cases r; cases s
    simp only at *
    rw [ext _ _ a, b, c, d, e, ext _ _ f, ext _ _ g, i, j, k, l]
  · rintro rfl
    exact recEq_refl r
end Go.Proofs.YtkmjnbfhfjafpaaDoor
