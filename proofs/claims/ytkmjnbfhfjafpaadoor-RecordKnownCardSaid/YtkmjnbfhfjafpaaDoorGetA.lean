/- Readers of bytes, step by step: what each step reads and leaves. -/
import Derived.Test.YtkmjnbfhfjafpaaDoorRefPut
import Derived.Test.YtkmjnbfhfjafpaaDoorRefReaderB
namespace Go.Proofs.YtkmjnbfhfjafpaaDoor
set_option linter.unusedVariables false
set_option linter.unusedSimpArgs false
open Go.RowKit
abbrev St := List UInt8 × Int
def intS (s : St) : Int × St := intG s.1 s.2
def textS (most : Int) (s : St) : ByteArray × St := textG most s.1 s.2
def countS (most : Int) (s : St) : Int × St := countG most s.1 s.2
def blobS (most : Int) (s : St) : List UInt8 × St := blobG most s.1 s.2
def endS (s : St) : Int := if 0 < s.1.length then 5 else s.2
def blobsS (most : Int) : Nat → St → List (List UInt8) × St
  | 0, s => ([], s)
  | k + 1, s => ((blobsS most k s).1 ++ [(blobS most (blobsS most k s).2).1], (blobS most (blobsS most k s).2).2)
theorem intS_bd (s : St) : -9223372036854775808 ≤ (intS s).1 ∧ (intS s).1 ≤ 9223372036854775807 := by
  show -9223372036854775808 ≤ wrap64 _ ∧ wrap64 _ ≤ 9223372036854775807
  unfold wrap64
  generalize (beN (takeG 8 s.1 s.2).1 : Int) = x
  omega
theorem countS_bd (most : Int) (hm : 0 ≤ most) (s : St) : 0 ≤ (countS most s).1 ∧ (countS most s).1 ≤ most := by
  unfold countS countG
  generalize intG s.1 s.2 = r
  simp only
  split
  · split
    · exact ⟨Int.le_refl _, hm⟩
    · rename_i h
      omega
  · exact ⟨Int.le_refl _, hm⟩
theorem blobS_bd (most : Nat) (s : St) : (blobS most s).1.length ≤ most := by
  unfold blobS blobG
  have h := countS_bd most (by omega) s
  unfold countS at h
  split
  · refine Nat.le_trans (takeG_len _ _ _) ?_
    omega
  · exact Nat.zero_le _
theorem textS_bd (most : Nat) (s : St) : (textS most s).1.size ≤ most := by
  have h := blobS_bd most s
  show (blobG most s.1 s.2).1.toArray.size ≤ most
  simpa [blobS] using h
def RdrS (w : World) (lo g : Nat) (s : St) : Prop := RdrAt w lo g s.1 s.2
def RefS (w : World) (lo g : Nat) (s : St) : Prop := RefAt w lo g s.1 s.2
section
variable {w w' : World} {lo g : Nat} {s : St}
theorem RdrS.below (h : RdrS w lo g s) {B : Nat} (hB : Below B w w') (hg : g < B) : RdrS w' lo g s := by
  obtain ⟨A, c, hK, h1, h2, h3⟩ := h
  refine ⟨A, c, (hB.block g hg).trans hK, h1, h2, ?_⟩
  rw [only_keep fun b _ h2 => hB.block b (by omega)]
  exact h3
theorem RefS.below (h : RefS w lo g s) {B : Nat} (hB : Below B w w') (hg : g < B) : RefS w' lo g s := by
  obtain ⟨B', i, A, c, hK, h1, h2, h3, h4, h5, h6⟩ := h
  refine ⟨B', i, A, c, (hB.block g hg).trans hK, h1, h2, h3, h4, h5, ?_⟩
  rw [only_keep fun b _ h2 => hB.block b (by omega)]
  exact h6
theorem RdrS.lt (h : RdrS w lo g s) : g < w.heap.size := by
  obtain ⟨A, c, hK, _⟩ := h
  exact hK.lt
theorem RefS.lt (h : RefS w lo g s) : g < w.heap.size := by
  obtain ⟨_, _, A, c, hK, _⟩ := h
  exact hK.lt
end
theorem int_S {w : World} {lo g : Nat} {s : St} (hR : RdrS w lo g s) : Calls Tryd.prog 52 #[.pointer (some ⟨g, 0, none⟩)] w fun e w' => ∃ x s', intS s = (x, s') ∧ (-9223372036854775808 ≤ x ∧ x ≤ 9223372036854775807) ∧ e = .returned (.int .i64 x) ∧ RdrS w' lo g s' ∧ Exc g (g + 1) w w' := by
  refine (int_any w lo g s.1 s.2 hR).mono ?_
  rintro e w' ⟨rfl, h1, h2⟩
  exact ⟨_, _, rfl, intS_bd s, rfl, h1, h2⟩
theorem rint_S {w : World} {lo g : Nat} {s : St} (hR : RefS w lo g s) : Calls Tryd.prog 58 #[.pointer (some ⟨g, 0, none⟩)] w fun e w' => ∃ x s', intS s = (x, s') ∧ (-9223372036854775808 ≤ x ∧ x ≤ 9223372036854775807) ∧ e = .returned (.int .i64 x) ∧ RefS w' lo g s' ∧ Exc g (g + 1) w w' := by
  refine (rint_any w lo g s.1 s.2 hR).mono ?_
  rintro e w' ⟨rfl, h1, h2⟩
  exact ⟨_, _, rfl, intS_bd s, rfl, h1, h2⟩
theorem text_S {w : World} {lo g : Nat} {s : St} (hR : RdrS w lo g s) (most : Nat) (hm : most ≤ 1099511627776) : Calls Tryd.prog 51 #[.pointer (some ⟨g, 0, none⟩), .int .i64 most] w fun e w' => ∃ x s', textS most s = (x, s') ∧ x.size ≤ most ∧ e = .returned (.string x) ∧ RdrS w' lo g s' ∧ Exc g (g + 1) w w' := by
  refine (text_any w lo g s.1 s.2 hR most (by omega)).mono ?_
  rintro e w' ⟨rfl, h1, h2⟩
  exact ⟨_, _, rfl, textS_bd most s, rfl, h1, h2⟩
theorem rtext_S {w : World} {lo g : Nat} {s : St} (hR : RefS w lo g s) (most : Nat) (hm : most ≤ 1099511627776) : Calls Tryd.prog 57 #[.pointer (some ⟨g, 0, none⟩), .int .i64 most] w fun e w' => ∃ x s', textS most s = (x, s') ∧ x.size ≤ most ∧ e = .returned (.string x) ∧ RefS w' lo g s' ∧ Exc g (g + 1) w w' := by
  refine (rtext_any w lo g s.1 s.2 hR most (by omega)).mono ?_
  rintro e w' ⟨rfl, h1, h2⟩
  exact ⟨_, _, rfl, textS_bd most s, rfl, h1, h2⟩
theorem countS_nat (most : Nat) (s : St) : ∃ n : Nat, (countS most s).1 = n ∧ n ≤ most := by
  have h := countS_bd most (by omega) s
  exact ⟨(countS most s).1.toNat, by omega, by omega⟩
theorem count_S {w : World} {lo g : Nat} {s : St} (hR : RdrS w lo g s) (most : Nat) : Calls Tryd.prog 53 #[.pointer (some ⟨g, 0, none⟩), .int .i64 most] w fun e w' => ∃ (n : Nat) (s' : St), countS most s = ((n : Int), s') ∧ n ≤ most ∧ e = .returned (.int .i64 n) ∧ RdrS w' lo g s' ∧ Exc g (g + 1) w w' := by
  refine (count_any w lo g s.1 s.2 hR most).mono ?_
  rintro e w' ⟨rfl, h1, h2⟩
  obtain ⟨n, hn, hm⟩ := countS_nat most s
  exact ⟨n, (countS most s).2, by rw [← hn], hm, by rw [← hn]; rfl, h1, h2⟩
theorem rcount_S {w : World} {lo g : Nat} {s : St} (hR : RefS w lo g s) (most : Nat) : Calls Tryd.prog 59 #[.pointer (some ⟨g, 0, none⟩), .int .i64 most] w fun e w' => ∃ (n : Nat) (s' : St), countS most s = ((n : Int), s') ∧ n ≤ most ∧ e = .returned (.int .i64 n) ∧ RefS w' lo g s' ∧ Exc g (g + 1) w w' := by
  refine (rcount_any w lo g s.1 s.2 hR most).mono ?_
  rintro e w' ⟨rfl, h1, h2⟩
  obtain ⟨n, hn, hm⟩ := countS_nat most s
  exact ⟨n, (countS most s).2, by rw [← hn], hm, by rw [← hn]; rfl, h1, h2⟩
theorem blob_S {w : World} {lo g : Nat} {s : St} (hR : RdrS w lo g s) (most : Nat) (hm : most ≤ 1099511627776) : Calls Tryd.prog 54 #[.pointer (some ⟨g, 0, none⟩), .int .i64 most] w fun e w' => ∃ (A : Option Addr) (n c : Nat) (p : List UInt8) (s' : St), blobS most s = (p, s') ∧ p.length = n ∧ n ≤ most ∧ e = .returned (.slice A n c) ∧ n ≤ c ∧ Rd.u8.Sl (only w' lo g) A n p ∧ RdrS w' lo g s' ∧ Exc g (g + 1) w w' := by
  refine (blob_any w lo g s.1 s.2 hR most (by omega)).mono ?_
  rintro e w' ⟨A, c, rfl, h1, h2, h3, h4⟩
  exact ⟨A, _, c, _, _, rfl, rfl, blobS_bd most s, rfl, h1, h2, h3, h4⟩
theorem rblob_S {w : World} {lo g : Nat} {s : St} (hR : RefS w lo g s) (most : Nat) (hm : most ≤ 1099511627776) : Calls Tryd.prog 60 #[.pointer (some ⟨g, 0, none⟩), .int .i64 most] w fun e w' => ∃ (u : Value) (p : List UInt8) (s' : St), blobS most s = (p, s') ∧ p.length ≤ most ∧ e = .returned u ∧ w'.ownsRow w.heap.size 5 1 u p.length (p.flatMap encB) ∧ RefS w' lo g s' ∧ Exc g (g + 1) w w' := by
  refine (rblob_any w lo g s.1 s.2 hR most (by omega)).mono ?_
  rintro e w' ⟨u, rfl, h1, h2, h3⟩
  exact ⟨u, _, _, rfl, blobS_bd most s, rfl, h1, h2, h3⟩
theorem end_S {w : World} {lo g : Nat} {s : St} (hR : RdrS w lo g s) : Calls Tryd.prog 55 #[.pointer (some ⟨g, 0, none⟩)] w fun e w' => e = .returned (.int .i64 (endS s)) ∧ w = w' := end_any w lo g s.1 s.2 hR
theorem rend_S {w : World} {lo g : Nat} {s : St} (hR : RefS w lo g s) : Calls Tryd.prog 61 #[.pointer (some ⟨g, 0, none⟩)] w fun e w' => e = .returned (.int .i64 (endS s)) ∧ Ext w w' := refEnd_any w lo g s.1 s.2 hR
/-- The record that bytes are read as, and what is left. -/
def getRec (b : List UInt8) : Rec × St :=
  let a0 := textS 24 (b, 0)
  let a1 := intS a0.2
  let a2 := intS a1.2
  let a3 := intS a2.2
  let a4 := intS a3.2
  let a5 := textS 24 a4.2
  let a6 := textS 24 a5.2
  let a7 := intS a6.2
  let a8 := intS a7.2
  let a9 := intS a8.2
  let n := countS 4 a9.2
  let l := blobsS 272 n.1.toNat n.2
  (⟨a0.1, a1.1, a2.1, a3.1, a4.1, a5.1, a6.1, a7.1, a8.1, a9.1, l.1⟩, l.2)
def zeroR : Rec := ⟨⟨#[]⟩, 0, 0, 0, 0, ⟨#[]⟩, ⟨#[]⟩, 0, 0, 0, []⟩
def getG (b : List UInt8) : Rec × Int :=
  if endS (getRec b).2 ≠ 0 then (zeroR, endS (getRec b).2) else if checkG (getRec b).1 ≠ 0 then (zeroR, checkG (getRec b).1) else ((getRec b).1, 0)
theorem getRec_eq {b : List UInt8} {t0 t5 t6 : ByteArray} {x1 x2 x3 x4 x7 x8 x9 : Int} {n : Nat} {l : List (List UInt8)} {s0 s1 s2 s3 s4 s5 s6 s7 s8 s9 s10 s11 : St} (h0 : textS 24 (b, 0) = (t0, s0)) (h1 : intS s0 = (x1, s1)) (h2 : intS s1 = (x2, s2)) (h3 : intS s2 = (x3, s3)) (h4 : intS s3 = (x4, s4)) (h5 : textS 24 s4 = (t5, s5)) (h6 : textS 24 s5 = (t6, s6)) (h7 : intS s6 = (x7, s7)) (h8 : intS s7 = (x8, s8)) (h9 : intS s8 = (x9, s9)) (h10 : countS 4 s9 = ((n : Int), s10)) (h11 : blobsS 272 n s10 = (l, s11)) : getRec b = (⟨t0, x1, x2, x3, x4, t5, t6, x7, x8, x9, l⟩, s11) := by
  unfold getRec
  simp only [h0, h1, h2, h3, h4, h5, h6, h7, h8, h9, h10, Int.toNat_natCast, h11]
end Go.Proofs.YtkmjnbfhfjafpaaDoor
