/- What was laid is read again; what is read was laid; what is cut short is too short: for each step, and for steps one behind the other. -/
import Derived.Test.YtkmjnbfhfjafpaaDoorGetA
namespace Go.Proofs.YtkmjnbfhfjafpaaDoor
set_option linter.unusedVariables false
set_option linter.unusedSimpArgs false
open Go.RowKit
/-- f reads what e lays. -/
structure Codec {α : Type} (f : St → α × St) (e : α → List UInt8) (ok : α → Prop) : Prop where
  full : ∀ x rest, ok x → f (e x ++ rest, 0) = (x, (rest, 0))
  cut : ∀ x k, ok x → k < (e x).length → (f ((e x).take k, 0)).2 = ([], 4)
  stuck : (f ([], 4)).2 = ([], 4)
  inv : ∀ s x rest, f s = (x, (rest, 0)) → s = (e x ++ rest, 0) ∧ ok x
/-- One behind the other. -/
def pairS {α β : Type} (f : St → α × St) (g : St → β × St) (s : St) : (α × β) × St := (((f s).1, (g (f s).2).1), (g (f s).2).2)
theorem Codec.pair {α β : Type} {f : St → α × St} {g : St → β × St} {e : α → List UInt8} {d : β → List UInt8} {ok : α → Prop} {ok' : β → Prop} (hf : Codec f e ok) (hg : Codec g d ok') :
    Codec (pairS f g) (fun x => e x.1 ++ d x.2) (fun x => ok x.1 ∧ ok' x.2) where
  full := by
    rintro ⟨x, y⟩ rest ⟨hx, hy⟩
    show pairS f g (e x ++ d y ++ rest, 0) = _
    unfold pairS
    rw [List.append_assoc, hf.full x _ hx]
    simp only
    rw [hg.full y _ hy]
  cut := by
    rintro ⟨x, y⟩ k ⟨hx, hy⟩ hk
    show (g (f ((e x ++ d y).take k, 0)).2).2 = _
    have hk : k < (e x ++ d y).length := hk
    rw [List.length_append] at hk
    by_cases h : k < (e x).length
    · rw [List.take_append_of_le_length (by omega), hf.cut x k hx h]
      exact hg.stuck
    · rw [List.take_append, List.take_of_length_le (by omega), hf.full x _ hx]
      exact hg.cut y _ hy (by omega)
  stuck := by
    show (g (f ([], 4)).2).2 = _
    rw [hf.stuck]
    exact hg.stuck
  inv := by
    rintro s ⟨x, y⟩ rest h
    unfold pairS at h
    simp only [Prod.mk.injEq] at h
    obtain ⟨⟨rfl, h2⟩, h3⟩ := h
    obtain ⟨hs2, hok2⟩ := hg.inv (f s).2 y rest (by rw [← h2, ← h3])
    obtain ⟨hs1, hok1⟩ := hf.inv s (f s).1 _ (by rw [← hs2])
    refine ⟨?_, hok1, hok2⟩
    show s = (e (f s).1 ++ d y ++ rest, 0)
    rw [List.append_assoc]
    exact hs1
/-- The same under another name. -/
theorem Codec.iso {α β : Type} {f : St → α × St} {e : α → List UInt8} {ok : α → Prop} (hf : Codec f e ok) (i : α → β) (j : β → α) (hij : ∀ x, j (i x) = x) (hji : ∀ y, i (j y) = y) :
    Codec (fun s => (i (f s).1, (f s).2)) (fun y => e (j y)) (fun y => ok (j y)) where
  full := fun y rest hy => by simp only [hf.full (j y) rest hy, hji]
  cut := fun y k hy hk => hf.cut (j y) k hy hk
  stuck := hf.stuck
  inv := fun s y rest h => by
    simp only [Prod.mk.injEq] at h
    have := hf.inv s (f s).1 rest (by rw [← h.2])
    rw [← h.1, hij]
    exact this
def manyS {α : Type} (one : St → α × St) : Nat → St → List α × St
  | 0, s => ([], s)
  | k + 1, s => ((manyS one k s).1 ++ [(one (manyS one k s).2).1], (one (manyS one k s).2).2)
/-- How many, and each of them. -/
def listS {α : Type} (most : Int) (one : St → α × St) (s : St) : List α × St := manyS one (countS most s).1.toNat (countS most s).2
/-! numbers -/
theorem bv (v : Int) : ((byteAt v 0).toNat : Int) = v % 256 ∧ ((byteAt v 1).toNat : Int) = v / 256 % 256 ∧ ((byteAt v 2).toNat : Int) = v / 65536 % 256 ∧ ((byteAt v 3).toNat : Int) = v / 16777216 % 256 ∧ ((byteAt v 4).toNat : Int) = v / 4294967296 % 256 ∧ ((byteAt v 5).toNat : Int) = v / 1099511627776 % 256 ∧ ((byteAt v 6).toNat : Int) = v / 281474976710656 % 256 ∧ ((byteAt v 7).toNat : Int) = v / 72057594037927936 % 256 :=
  ⟨by have h := byteAt_val v 0; rw [show ((2 : Int) ^ (8 * 0)) = 1 from rfl, Int.ediv_one] at h; exact h, byteAt_val v 1, byteAt_val v 2, byteAt_val v 3, byteAt_val v 4, byteAt_val v 5, byteAt_val v 6, byteAt_val v 7⟩
theorem num_bytes (v : Int) : ((beN (num8 v) : Nat) : Int) = v % 18446744073709551616 := by
  obtain ⟨h0, h1, h2, h3, h4, h5, h6, h7⟩ := bv v
  unfold num8 beN
  rw [List.foldl_cons, List.foldl_cons, List.foldl_cons, List.foldl_cons, List.foldl_cons, List.foldl_cons, List.foldl_cons, List.foldl_cons, List.foldl_nil]
  generalize (byteAt v 0).toNat = b0 at *; generalize (byteAt v 1).toNat = b1 at *; generalize (byteAt v 2).toNat = b2 at *; generalize (byteAt v 3).toNat = b3 at *
  generalize (byteAt v 4).toNat = b4 at *; generalize (byteAt v 5).toNat = b5 at *; generalize (byteAt v 6).toNat = b6 at *; generalize (byteAt v 7).toNat = b7 at *
  omega
theorem wrap_num (v : Int) (hv : -9223372036854775808 ≤ v ∧ v ≤ 9223372036854775807) : wrap64 (beN (num8 v)) = v := by
  rw [num_bytes]
  unfold wrap64
  omega
theorem beN_inj : ∀ (n : Nat) (p q : List UInt8), p.length = n → q.length = n → beN p = beN q → p = q
  | 0, p, q, hp, hq, _ => by rw [List.eq_nil_of_length_eq_zero hp, List.eq_nil_of_length_eq_zero hq]
  | n + 1, p, q, hp, hq, h => by
    have hp0 : p ≠ [] := by rintro rfl; simp at hp
    have hq0 : q ≠ [] := by rintro rfl; simp at hq
    rw [← List.dropLast_concat_getLast hp0, ← List.dropLast_concat_getLast hq0] at h ⊢
    rw [beN_snoc, beN_snoc] at h
    have l1 := (p.getLast hp0).toNat_lt
    have l2 := (q.getLast hq0).toNat_lt
    have e1 : (p.getLast hp0) = (q.getLast hq0) := UInt8.toNat_inj.1 (by omega)
    have e2 := beN_inj n p.dropLast q.dropLast (by simp; omega) (by simp; omega) (by omega)
    rw [e1, e2]
theorem num_wrap (p : List UInt8) (hp : p.length = 8) : num8 (wrap64 (beN p)) = p := by
  refine beN_inj 8 _ _ rfl hp ?_
  obtain ⟨v, hv⟩ : ∃ v, wrap64 (beN p) = v := ⟨_, rfl⟩
  rw [hv]
  have h1 := num_bytes v
  have h2 := beN_lt p
  rw [hp] at h2
  have h3 : (256 : Nat) ^ 8 = 18446744073709551616 := by decide
  rw [h3] at h2
  unfold wrap64 at hv
  omega
/-! steps -/
def intOk (v : Int) : Prop := -9223372036854775808 ≤ v ∧ v ≤ 9223372036854775807
theorem take_full (n : Nat) (p rest : List UInt8) (h : p.length = n) : takeG n (p ++ rest) 0 = (p, rest, 0) := by
  unfold takeG
  rw [if_neg (by rw [List.length_append]; omega), ← h, List.take_left, List.drop_left]
theorem take_cut (n : Nat) (p : List UInt8) (h : p.length < n) : takeG n p 0 = ([], [], 4) := by
  unfold takeG
  rw [if_pos h, if_pos rfl]
theorem take_stuck (n : Nat) : takeG n [] 4 = ([], [], 4) := by
  unfold takeG
  split
  · rfl
  · simp
theorem take_inv (n : Nat) (bs : List UInt8) (why : Int) (p rest : List UInt8) (h : takeG n bs why = (p, rest, 0)) : bs = p ++ rest ∧ p.length = n ∧ why = 0 := by
  unfold takeG at h
  split at h
  · split at h
    · simp at h
    · rename_i h0 h1
      simp only [Prod.mk.injEq] at h
      exact absurd h.2.2 h1
  · simp only [Prod.mk.injEq] at h
    obtain ⟨rfl, rfl, rfl⟩ := h
    exact ⟨(List.take_append_drop n bs).symm, by rw [List.length_take]; omega, rfl⟩
theorem int_codec : Codec intS num8 intOk where
  full := fun x rest hx => by
    unfold intS intG
    rw [take_full 8 _ _ (num8_len x)]
    simp only [wrap_num x hx]
  cut := fun x k _ hk => by
    rw [num8_len] at hk
    unfold intS intG
    rw [take_cut 8 _ (by rw [List.length_take]; omega)]
  stuck := by
    unfold intS intG
    rw [take_stuck]
  inv := fun s x rest h => by
    obtain ⟨bs, why⟩ := s
    unfold intS intG at h
    simp only [Prod.mk.injEq] at h
    obtain ⟨h1, h2⟩ := h
    obtain ⟨p, hp⟩ : ∃ p, (takeG 8 bs why).1 = p := ⟨_, rfl⟩
    rw [hp] at h1
    obtain ⟨e1, e2, rfl⟩ := take_inv 8 bs why p rest (by rw [← hp, ← h2])
    refine ⟨?_, ?_⟩
    · rw [← h1, num_wrap p e2, e1]
    · rw [← h1]; unfold wrap64 intOk; omega
def cntOk (most : Int) (v : Int) : Prop := 0 ≤ v ∧ v ≤ most
theorem count_codec (most : Nat) (hm : most ≤ 4611686018427387904) : Codec (countS most) num8 (cntOk most) where
  full := fun x rest hx => by
    have h := int_codec.full x rest ⟨by have := hx.1; omega, by have := hx.2; omega⟩
    unfold intS at h
    unfold countS countG
    rw [h]
    have hx1 := hx.1
    have hx2 := hx.2
    simp only [if_true]
    rw [if_neg (by omega)]
  cut := fun x k hx hk => by
    have h := int_codec.cut x k ⟨by have := hx.1; omega, by have := hx.2; omega⟩ hk
    unfold intS at h
    unfold countS countG
    simp only [h]
    rw [if_neg (by decide)]
  stuck := by
    have h := int_codec.stuck
    unfold intS at h
    unfold countS countG
    simp only [h]
    rw [if_neg (by decide)]
  inv := fun s x rest h => by
    have hi := int_codec.inv s
    unfold countS countG at h
    unfold intS at hi
    obtain ⟨r, hr⟩ : ∃ r, intG s.1 s.2 = r := ⟨_, rfl⟩
    rw [hr] at h hi
    simp only at h
    split at h
    · split at h
      · simp at h
      · rename_i h1 h2
        subst h
        exact ⟨(hi x rest rfl).1, by omega, by omega⟩
    · rename_i h1
      simp only [Prod.mk.injEq] at h
      exact absurd (by rw [h.2]) h1
theorem blob_codec (most : Nat) (hm : most ≤ 4611686018427387904) : Codec (blobS most) (fun p => num8 p.length ++ p) (fun p => p.length ≤ most) where
  full := fun x rest hx => by
    have h := (count_codec most hm).full x.length (x ++ rest) ⟨by omega, by omega⟩
    unfold countS at h
    show blobG most (num8 x.length ++ x ++ rest) 0 = _
    unfold blobG
    rw [List.append_assoc, h]
    simp only [if_true, Int.toNat_natCast]
    rw [take_full _ _ _ rfl]
  cut := fun x k hx hk => by
    show (blobG most ((num8 x.length ++ x).take k) 0).2 = _
    have hk : k < (num8 x.length ++ x).length := hk
    rw [List.length_append, num8_len] at hk
    unfold blobG
    by_cases h : k < 8
    · have hc := (count_codec most hm).cut x.length k ⟨by omega, by omega⟩ (by rw [num8_len]; exact h)
      unfold countS at hc
      rw [List.take_append_of_le_length (by rw [num8_len]; omega)]
      simp only [hc]
      rw [if_neg (by decide)]
    · have hc := (count_codec most hm).full x.length (x.take (k - 8)) ⟨by omega, by omega⟩
      unfold countS at hc
      rw [List.take_append, List.take_of_length_le (by rw [num8_len]; omega), num8_len, hc]
      simp only [if_true, Int.toNat_natCast]
      rw [take_cut _ _ (by rw [List.length_take]; omega)]
  stuck := by
    have hc := (count_codec most hm).stuck
    unfold countS at hc
    show (blobG most [] 4).2 = _
    unfold blobG
    simp only [hc]
    rw [if_neg (by decide)]
  inv := fun s x rest h => by
    have hc := (count_codec most hm).inv s
    unfold countS at hc
    unfold blobS blobG at h
    obtain ⟨⟨n, q, y⟩, hr⟩ : ∃ r, countG most s.1 s.2 = r := ⟨_, rfl⟩
    rw [hr] at h hc
    simp only at h
    split at h
    · rename_i hy
      subst hy
      obtain ⟨h1, h2⟩ := hc n q rfl
      obtain ⟨e1, e2, -⟩ := take_inv _ _ _ _ _ h
      have h20 := h2.1
      have h21 := h2.2
      refine ⟨?_, by omega⟩
      rw [h1, e1, show (x.length : Int) = n by omega, List.append_assoc]
    · rename_i hy
      simp only [Prod.mk.injEq] at h
      exact absurd h.2.2 hy
theorem bytes_eq (x : ByteArray) : (⟨x.data.toList.toArray⟩ : ByteArray) = x := by
  cases x; simp
theorem text_codec (most : Nat) (hm : most ≤ 4611686018427387904) : Codec (textS most) txtB (fun s => s.size ≤ most) := by
  have h := (blob_codec most hm).iso (fun p => (⟨p.toArray⟩ : ByteArray)) (fun s => s.data.toList) (fun p => by simp) bytes_eq
  have e : ∀ s : ByteArray, s.data.toList.length = s.size := fun s => by rw [Array.length_toList]; rfl
  refine ⟨fun x rest hx => ?_, fun x k hx hk => ?_, h.stuck, fun s x rest hs => ?_⟩
  · have := h.full x rest (by rw [e]; exact hx)
    rw [e] at this
    exact this
  · have := h.cut x k (by rw [e]; exact hx) (by rw [e]; exact hk)
    rw [e] at this
    exact this
  · obtain ⟨h1, h2⟩ := h.inv s x rest hs
    rw [e] at h1 h2
    exact ⟨h1, h2⟩
theorem many_full {α : Type} {f : St → α × St} {e : α → List UInt8} {ok : α → Prop} (hf : Codec f e ok) (l : List α) (hl : ∀ x ∈ l, ok x) (rest : List UInt8) : ∀ k, k ≤ l.length → manyS f k (l.flatMap e ++ rest, 0) = (l.take k, ((l.drop k).flatMap e ++ rest, 0))
  | 0, _ => by simp [manyS]
  | k + 1, h => by
    unfold manyS
    rw [many_full hf l hl rest k (by omega)]
    simp only
    rw [List.drop_eq_getElem_cons (by omega), List.flatMap_cons, List.append_assoc, hf.full _ _ (hl _ (List.getElem_mem _))]
    rw [List.take_succ_eq_append_getElem (by omega)]
theorem many_stuck {α : Type} {f : St → α × St} {e : α → List UInt8} {ok : α → Prop} (hf : Codec f e ok) : ∀ k, (manyS f k ([], 4)).2 = ([], 4)
  | 0 => rfl
  | k + 1 => by
    show (f (manyS f k ([], 4)).2).2 = _
    rw [many_stuck hf k]
    exact hf.stuck
/-- From the front. -/
theorem many_succ {α : Type} (f : St → α × St) : ∀ (k : Nat) (s : St), manyS f (k + 1) s = ((f s).1 :: (manyS f k (f s).2).1, (manyS f k (f s).2).2)
  | 0, s => rfl
  | k + 1, s => by
    rw [manyS, many_succ f k s]
    rfl
theorem many_cut {α : Type} {f : St → α × St} {e : α → List UInt8} {ok : α → Prop} (hf : Codec f e ok) : ∀ (l : List α) (k : Nat), (∀ x ∈ l, ok x) → k < (l.flatMap e).length → (manyS f l.length ((l.flatMap e).take k, 0)).2 = ([], 4)
  | [], k, _, h => by simp at h
  | x :: l, k, hl, h => by
    rw [List.length_cons, many_succ]
    simp only
    rw [List.flatMap_cons, List.length_append] at h
    rw [List.flatMap_cons]
    by_cases hk : k < (e x).length
    · rw [List.take_append_of_le_length (by omega), hf.cut x k (hl x (by simp)) hk]
      exact many_stuck hf _
    · rw [List.take_append, List.take_of_length_le (by omega), hf.full x _ (hl x (by simp))]
      exact many_cut hf l _ (fun y hy => hl y (by simp [hy])) (by omega)
theorem many_inv {α : Type} {f : St → α × St} {e : α → List UInt8} {ok : α → Prop} (hf : Codec f e ok) : ∀ (k : Nat) (s : St) (l : List α) (rest : List UInt8), manyS f k s = (l, (rest, 0)) → s = (l.flatMap e ++ rest, 0) ∧ l.length = k ∧ ∀ x ∈ l, ok x
  | 0, s, l, rest, h => by
    simp only [manyS, Prod.mk.injEq] at h
    obtain ⟨rfl, rfl⟩ := h
    exact ⟨rfl, rfl, fun x hx => by cases hx⟩
  | k + 1, s, l, rest, h => by
    rw [many_succ] at h
    simp only [Prod.mk.injEq] at h
    obtain ⟨rfl, h2⟩ := h
    obtain ⟨h3, h4, h5⟩ := many_inv hf k (f s).2 _ rest (by rw [← h2])
    obtain ⟨h6, h7⟩ := hf.inv s (f s).1 _ (by rw [← h3])
    refine ⟨?_, by rw [List.length_cons, h4], fun x hx => ?_⟩
    · rw [List.flatMap_cons, List.append_assoc]; exact h6
    · rcases List.mem_cons.1 hx with rfl | hx
      · exact h7
      · exact h5 x hx
theorem list_codec {α : Type} {f : St → α × St} {e : α → List UInt8} {ok : α → Prop} (hf : Codec f e ok) (most : Nat) (hm : most ≤ 4611686018427387904) :
    Codec (listS most f) (fun l => num8 l.length ++ l.flatMap e) (fun l => l.length ≤ most ∧ ∀ x ∈ l, ok x) where
  full := fun l rest hl => by
    have h := (count_codec most hm).full l.length (l.flatMap e ++ rest) ⟨by omega, by have := hl.1; omega⟩
    unfold listS
    rw [List.append_assoc, h]
    simp only [Int.toNat_natCast]
    rw [many_full hf l hl.2 rest _ (Nat.le_refl _)]
    simp
  cut := fun l k hl hk => by
    rw [List.length_append, num8_len] at hk
    unfold listS
    by_cases h : k < 8
    · have hc := (count_codec most hm).cut l.length k ⟨by omega, by have := hl.1; omega⟩ (by rw [num8_len]; exact h)
      rw [List.take_append_of_le_length (by rw [num8_len]; omega), hc]
      exact many_stuck hf _
    · have hc := (count_codec most hm).full l.length ((l.flatMap e).take (k - 8)) ⟨by omega, by have := hl.1; omega⟩
      rw [List.take_append, List.take_of_length_le (by rw [num8_len]; omega), num8_len, hc]
      simp only [Int.toNat_natCast]
      exact many_cut hf l _ hl.2 (by omega)
  stuck := by
    unfold listS
    rw [(count_codec most hm).stuck]
    exact many_stuck hf _
  inv := fun s l rest h => by
    unfold listS at h
    obtain ⟨h1, h2, h3⟩ := many_inv hf _ _ l rest h
    obtain ⟨h4, h5⟩ := (count_codec most hm).inv s (countS most s).1 _ (by rw [← h1])
    have h50 := h5.1
    have h51 := h5.2
    refine ⟨?_, by omega, h3⟩
    rw [List.append_assoc, show (l.length : Int) = (countS most s).1 by omega]
    exact h4
end Go.Proofs.YtkmjnbfhfjafpaaDoor
