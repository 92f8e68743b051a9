/- The program's reader: numbers, counts, bytes, texts. -/
import Derived.Test.YtkmjnbfhfjafpaaDoorReader
import Derived.Laws.BitsLemmas
namespace Go.Proofs.YtkmjnbfhfjafpaaDoor
set_option linter.unusedVariables false
set_option linter.unusedSimpArgs false
open Go.RowKit
def beN (p : List UInt8) : Nat := p.foldl (fun v x => v * 256 + x.toNat) 0
theorem beN_snoc (p : List UInt8) (x : UInt8) : beN (p ++ [x]) = beN p * 256 + x.toNat := by
  unfold beN; rw [List.foldl_append]; rfl
theorem beN_aux : ∀ (p : List UInt8) (v : Nat), p.foldl (fun v x => v * 256 + x.toNat) v < (v + 1) * 256 ^ p.length
  | [], v => by simp
  | x :: l, v => by
    have h := beN_aux l (v * 256 + x.toNat)
    have hx := x.toNat_lt
    rw [List.foldl_cons, List.length_cons, Nat.pow_succ]
    refine Nat.lt_of_lt_of_le h ?_
    generalize 256 ^ l.length = q
    rw [Nat.mul_comm q 256, ← Nat.mul_assoc]
    exact Nat.mul_le_mul_right _ (by omega)
theorem beN_lt (p : List UInt8) : beN p < 256 ^ p.length := by
  have := beN_aux p 0
  simpa [beN] using this
theorem or_byte (m x : Nat) (hm : m < 72057594037927936) (hx : x < 256) : bits .or .u64 ((m : Int) * 256) (x : Int) = ((m * 256 + x : Nat) : Int) := by
  rw [bits_join .u64 64 (by decide) (fun n h0 h1 => by rw [IntKind.wrap_u64]; omega) 8 _ _ (by omega) (by omega) (by omega) (by omega) (by omega) (by omega)]
  omega
def intG (bs : List UInt8) (why : Int) : Int × List UInt8 × Int := (wrap64 (beN (takeG 8 bs why).1), (takeG 8 bs why).2)
def IntP (g : Nat) (lo : Nat) (w : World) (r : Int × List UInt8 × Int) (e : Ending) (w' : World) : Prop := e = .returned (.int .i64 r.1) ∧ RdrAt w' lo g r.2.1 r.2.2 ∧ Exc g (g + 1) w w'
theorem takeG_len (n : Nat) (bs : List UInt8) (why : Int) : (takeG n bs why).1.length ≤ n := by
  unfold takeG; split
  · exact Nat.zero_le _
  · exact List.length_take_le _ _
set_option maxHeartbeats 1000000 in
set_option maxRecDepth 100000 in
theorem int_any (w : World) (lo g : Nat) (bs : List UInt8) (why : Int) (hR : RdrAt w lo g bs why) :
    Calls Tryd.prog 52 #[.pointer (some ⟨g, 0, none⟩)] w (IntP g lo w (intG bs why)) := by
  have ht := take_any w lo g bs why hR 8 (by omega)
  rw [show ((8 : Nat) : Int) = 8 from rfl] at ht
  have hl := takeG_len 8 bs why
  obtain ⟨r, hr⟩ : ∃ r, takeG 8 bs why = r := ⟨_, rfl⟩
  unfold intG
  rw [hr] at ht hl ⊢
  obtain ⟨p, q⟩ := r
  clear hR hr
  simp only at hl
  go_enter Tryd.func52, Tryd.ntmps52
  go_wp2_with (go_at_call 72; (with_reducible refine ht.mono ?_); rintro e w1 ⟨A, c, rfl, h1c, h1S, hR1, hX1⟩)
  obtain ⟨n, hn⟩ : ∃ n, p.length = n := ⟨_, rfl⟩
  have h1S := h1S.mono only_cle
  rw [hn] at hl h1c h1S
  simp only [hn]
  go_loop [3, 9] (fun s i => ∃ k m : Nat, k ≤ n ∧ i = .int .i64 k ∧ m = beN (p.take k) ∧ s = .int .u64 m) (fun _ i => n - (intOf i).toNat)
  case atStart => exact ⟨0, 0, by omega, rfl, rfl, rfl⟩
  case round =>
    obtain ⟨k, m, hkn, rfl, hm, rfl⟩ := hrel
    by_cases hlt : k < n
    · obtain ⟨b, o, rfl, x0⟩ := b_get h1S k hlt
      have hs := beN_snoc (p.take k) (p[k]'(by omega))
      rw [← List.take_succ_eq_append_getElem, ← hm] at hs
      have hb := beN_lt (p.take k)
      rw [← hm, List.length_take, Nat.min_eq_left (by omega)] at hb
      have hb2 : m < 72057594037927936 := Nat.lt_of_lt_of_le hb (by
        have : k ≤ 7 := by omega
        exact Nat.pow_le_pow_right (by decide) this)
      generalize p[k]'(by omega) = x at *
      have hx := x.toNat_lt
      have HS := Lib.hid hs
      have HJ := Lib.hid (or_byte m x.toNat hb2 hx)
      clear hm hs hb h1S
      go_wp2_with fail
      go_round
      case rel => exact ⟨k + 1, m * 256 + x.toNat, by omega, by go_num, HS.out.symm, by rw [HJ.out]⟩
      case measure => simp [intOf]; omega
    · obtain rfl : k = n := by omega
      rw [← hn, List.take_length] at hm
      clear h1S
      go_wp2_with fail
      go_ret
      exact ⟨rfl, hR1, hX1⟩
def countG (most : Int) (bs : List UInt8) (why : Int) : Int × List UInt8 × Int :=
  let r := intG bs why
  if r.2.2 = 0 then (if r.1 < 0 ∨ most < r.1 then (0, [], 3) else r) else (0, r.2)
set_option maxHeartbeats 1000000 in
set_option maxRecDepth 100000 in
theorem count_any (w : World) (lo g : Nat) (bs : List UInt8) (why : Int) (hR : RdrAt w lo g bs why) (most : Int) :
    Calls Tryd.prog 53 #[.pointer (some ⟨g, 0, none⟩), .int .i64 most] w (IntP g lo w (countG most bs why)) := by
  have ht := int_any w lo g bs why hR
  unfold countG
  obtain ⟨r, hr⟩ : ∃ r, intG bs why = r := ⟨_, rfl⟩
  rw [hr] at ht ⊢
  obtain ⟨v, q, y⟩ := r
  clear hR hr
  obtain ⟨z, hz⟩ : ∃ z, (if y = 0 then (if v < 0 ∨ most < v then ((0 : Int), ([] : List UInt8), (3 : Int)) else (v, q, y)) else (0, q, y)) = z := ⟨_, rfl⟩
  show Calls _ _ _ _ (IntP g lo w (if y = 0 then (if v < 0 ∨ most < v then ((0 : Int), ([] : List UInt8), (3 : Int)) else (v, q, y)) else (0, q, y)))
  rw [hz]
  go_enter Tryd.func53, Tryd.ntmps53
  go_upto_region 2 with (go_at_call 52; (with_reducible refine ht.mono ?_); rintro e w1 ⟨rfl, hR1, hX1⟩)
  have hb := bad_any w1 lo g q y hR1
  have hs := stick_any w1 lo g q y hR1 3
  obtain ⟨A, c, hB, h1, h2, h3⟩ := id hR1
  have x1 := hB.cell 1 (v := .int .i64 y) rfl
  clear hB h3 h1 h2
  by_cases hy : y = 0
  · rw [if_pos hy] at hz
    subst hy
    by_cases hv : v < 0 ∨ most < v
    · rw [if_pos hv] at hz
      rw [if_pos rfl, if_pos rfl] at hs
      have hb3 := fun w2 (h : RdrAt w2 lo g [] 3) => bad_any w2 lo g [] 3 h
      have HZ := Lib.hid hz
      clear hz hb
      go_wp2_with (first | (go_at_call 73; (with_reducible refine hs.mono ?_); rintro e w2 ⟨rfl, hR2, hX2⟩) | (go_at_call 74; (with_reducible refine (hb3 _ hR2).mono ?_); rintro e w3 ⟨rfl, rfl⟩))
      all_goals go_ret
      all_goals (rw [← HZ.out]; exact ⟨rfl, hR2, hX1.trans hX2⟩)
    · rw [if_neg hv] at hz
      have HZ := Lib.hid hz
      have hv1 : ¬ v < 0 := fun h => hv (.inl h)
      have hv2 : ¬ most < v := fun h => hv (.inr h)
      clear hz hs hv
      go_wp2_with (go_at_call 74; (with_reducible refine hb.mono ?_); rintro e w3 ⟨rfl, rfl⟩)
      go_ret
      rw [← HZ.out]
      exact ⟨rfl, hR1, hX1⟩
  · rw [if_neg hy] at hz
    have HZ := Lib.hid hz
    have hy1 : (y == 0) = false := by simpa using hy
    have hy2 : (y != 0) = true := by simpa using hy
    clear hz hs
    go_wp2_with (go_at_call 74; (with_reducible refine hb.mono ?_); rintro e w3 ⟨rfl, rfl⟩)
    go_ret
    rw [← HZ.out]
    exact ⟨rfl, hR1, hX1⟩
end Go.Proofs.YtkmjnbfhfjafpaaDoor
