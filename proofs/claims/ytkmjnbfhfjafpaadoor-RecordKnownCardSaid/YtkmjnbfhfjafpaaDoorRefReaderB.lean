/- The reader of the document's answer: numbers, counts, bytes, texts. -/
import Derived.Test.YtkmjnbfhfjafpaaDoorRefReader
namespace Go.Proofs.YtkmjnbfhfjafpaaDoor
set_option linter.unusedVariables false
set_option linter.unusedSimpArgs false
open Go.RowKit
def RIntP (lo g : Nat) (w : World) (r : Int × List UInt8 × Int) (e : Ending) (w' : World) : Prop := e = .returned (.int .i64 r.1) ∧ RefAt w' lo g r.2.1 r.2.2 ∧ Exc g (g + 1) w w'
set_option maxHeartbeats 1000000 in
set_option maxRecDepth 100000 in
theorem rint_any (w : World) (lo g : Nat) (bs : List UInt8) (why : Int) (hR : RefAt w lo g bs why) :
    Calls Tryd.prog 58 #[.pointer (some ⟨g, 0, none⟩)] w (RIntP lo g w (intG bs why)) := by
  have ht := next_any w lo g bs why hR 8 (by omega)
  rw [show ((8 : Nat) : Int) = 8 from rfl] at ht
  have hl := takeG_len 8 bs why
  obtain ⟨r, hr⟩ : ∃ r, takeG 8 bs why = r := ⟨_, rfl⟩
  unfold intG
  rw [hr] at ht hl ⊢
  obtain ⟨p, q⟩ := r
  clear hR hr
  simp only at hl
  go_enter Tryd.func58, Tryd.ntmps58
  go_wp2_with (go_at_call 75; (with_reducible refine ht.mono ?_); rintro e w1 ⟨u, rfl, hown, hR1, hX1⟩; obtain ⟨A, c, hu, h1c, -, h1S⟩ := own_bytes (lo := 0) (hi := w1.heap.size) hown (Nat.zero_le _) (Nat.le_refl _); subst hu; clear hown)
  obtain ⟨n, hn⟩ : ∃ n, p.length = n := ⟨_, rfl⟩
  have h1S := h1S.mono only_cle
  rw [hn] at hl h1c h1S
  simp only [hn]
  go_loop [4, 5] (fun s i => ∃ k m : Nat, k ≤ n ∧ i = .int .i64 k ∧ m = beN (p.take k) ∧ s = .int .u64 m) (fun _ i => n - (intOf i).toNat)
  case atStart => exact ⟨0, 0, by omega, rfl, rfl, rfl⟩
  case round =>
    obtain ⟨k, m, hkn, rfl, hm, rfl⟩ := hrel
    by_cases hlt : k < n
    · obtain ⟨b, o, rfl, x0⟩ := b_get h1S k hlt
      have hs := beN_snoc (p.take k) (p[k]'(by omega))
      rw [← List.take_succ_eq_append_getElem, ← hm] at hs
      have hb := beN_lt (p.take k)
      rw [← hm, List.length_take, Nat.min_eq_left (by omega)] at hb
      have hb2 : m < 72057594037927936 := Nat.lt_of_lt_of_le hb (by
        have : k ≤ 7 := by omega
        exact Nat.pow_le_pow_right (by decide) this)
      generalize p[k]'(by omega) = x at *
      have hx := x.toNat_lt
      have HS := Lib.hid hs
      clear hm hs hb h1S
      go_wp2_with fail
      go_round
      case rel => exact ⟨k + 1, m * 256 + x.toNat, by omega, by go_num, HS.out.symm, by go_num⟩
      case measure => simp [intOf]; omega
    · obtain rfl : k = n := by omega
      rw [← hn, List.take_length] at hm
      clear h1S
      go_wp2_with fail
      go_ret
      exact ⟨rfl, hR1, hX1⟩
set_option maxHeartbeats 1000000 in
set_option maxRecDepth 100000 in
theorem rcount_any (w : World) (lo g : Nat) (bs : List UInt8) (why : Int) (hR : RefAt w lo g bs why) (most : Int) :
    Calls Tryd.prog 59 #[.pointer (some ⟨g, 0, none⟩), .int .i64 most] w (RIntP lo g w (countG most bs why)) := by
  have ht := rint_any w lo g bs why hR
  unfold countG
  obtain ⟨r, hr⟩ : ∃ r, intG bs why = r := ⟨_, rfl⟩
  rw [hr] at ht ⊢
  obtain ⟨v, q, y⟩ := r
  clear hR hr
  obtain ⟨z, hz⟩ : ∃ z, (if y = 0 then (if v < 0 ∨ most < v then ((0 : Int), ([] : List UInt8), (3 : Int)) else (v, q, y)) else (0, q, y)) = z := ⟨_, rfl⟩
  show Calls _ _ _ _ (RIntP lo g w (if y = 0 then (if v < 0 ∨ most < v then ((0 : Int), ([] : List UInt8), (3 : Int)) else (v, q, y)) else (0, q, y)))
  rw [hz]
  go_enter Tryd.func59, Tryd.ntmps59
  go_upto_region 2 with (go_at_call 58; (with_reducible refine ht.mono ?_); rintro e w1 ⟨rfl, hR1, hX1⟩)
  obtain ⟨B, i, A, c, hB, h1, h2, h3, h4, h5, h6⟩ := id hR1
  have x1 := hB.cell 2 (v := .int .i64 y) rfl
  have f1 := hB.frozen 2
  by_cases hy : y = 0
  · rw [if_pos hy] at hz
    subst hy
    by_cases hv : v < 0 ∨ most < v
    · rw [if_pos hv] at hz
      have HZ := Lib.hid hz
      have hX := hX1.trans (Exc.setCell (lo := g) (hi := g + 1) (w := w1) (p := ⟨g, 2, none⟩) (Nat.le_refl g) (Nat.lt_succ_self g) (.int .i64 3))
      have hfin : RefAt (w1.setCell ⟨g, 2, none⟩ (.int .i64 3)) lo g [] 3 := ⟨B, i, A, c, hB.set_ 2 (.int .i64 3), h1, h2, h3, (fun h => by cases h), (fun _ => rfl), by
        rw [(Exc.setCell (lo := g) (hi := g + 1) (p := ⟨g, 2, none⟩) (Nat.le_refl g) (Nat.lt_succ_self g) (.int .i64 3)).only (Nat.le_of_lt hB.lt) (.inl (Nat.le_refl _))]; exact h6⟩
      clear hz hB h6 h4 h5 h1 h2 h3
      go_wp2_with fail
      all_goals go_ret
      all_goals (rw [← HZ.out]; exact ⟨rfl, hfin, hX⟩)
    · rw [if_neg hv] at hz
      have HZ := Lib.hid hz
      have hv1 : ¬ v < 0 := fun h => hv (.inl h)
      have hv2 : ¬ most < v := fun h => hv (.inr h)
      clear hz hv hB h6 h4 h5 h1 h2 h3
      go_wp2_with fail
      go_ret
      rw [← HZ.out]
      exact ⟨rfl, hR1, hX1⟩
  · rw [if_neg hy] at hz
    have HZ := Lib.hid hz
    have hy1 : (y == 0) = false := by simpa using hy
    have hy2 : (y != 0) = true := by simpa using hy
    clear hz hB h6 h4 h5 h1 h2 h3
    go_wp2_with fail
    go_ret
    rw [← HZ.out]
    exact ⟨rfl, hR1, hX1⟩
set_option maxHeartbeats 1000000 in
set_option maxRecDepth 100000 in
theorem rblob_any (w : World) (lo g : Nat) (bs : List UInt8) (why : Int) (hR : RefAt w lo g bs why) (most : Int) (hm : most ≤ 1099511627776) :
    Calls Tryd.prog 60 #[.pointer (some ⟨g, 0, none⟩), .int .i64 most] w (NextP lo g w (blobG most bs why)) := by
  have ht := rcount_any w lo g bs why hR most
  have hbd := countG_bd most bs why
  have hz0 : (countG most bs why).2.2 ≠ 0 → (countG most bs why).1 = 0 := fun h => by
    unfold countG at *
    generalize intG bs why = r at *
    simp only at *
    by_cases h0 : r.2.2 = 0
    · rw [if_pos h0] at h ⊢
      by_cases h1 : r.1 < 0 ∨ most < r.1
      · rw [if_pos h1]
      · rw [if_neg h1] at h; exact absurd h0 h
    · rw [if_neg h0]
  unfold blobG
  obtain ⟨r, hr⟩ : ∃ r, countG most bs why = r := ⟨_, rfl⟩
  rw [hr] at ht hbd hz0 ⊢
  obtain ⟨v, q, y⟩ := r
  clear hR hr
  simp only at hbd hz0
  show Calls _ _ _ _ (NextP lo g w (if y = 0 then takeG v.toNat q 0 else ([], q, y)))
  obtain ⟨z, hz⟩ : ∃ z, (if y = 0 then takeG v.toNat q 0 else ([], q, y)) = z := ⟨_, rfl⟩
  rw [hz]
  obtain ⟨n, rfl⟩ : ∃ n : Nat, v = n := by
    by_cases hy : y = 0
    · exact Int.eq_ofNat_of_zero_le (hbd hy).1
    · exact ⟨0, by rw [hz0 hy]; rfl⟩
  have hn : n ≤ 1099511627776 := by
    by_cases hy : y = 0
    · have := (hbd hy).2; omega
    · have := hz0 hy; omega
  have hzz : ∀ w1, RefAt w1 lo g q y → takeG n q y = z := fun w1 h => by
    obtain ⟨B, i, A, c, hB, h1, h2, h3, h4, h5, h6⟩ := h
    by_cases hy : y = 0
    · rw [if_pos hy, Int.toNat_natCast] at hz
      rw [hy]; exact hz
    · rw [if_neg hy] at hz
      rw [← hz, h5 hy]
      have hn0 : n = 0 := by have := hz0 hy; omega
      subst hn0
      rfl
  clear hz hbd hz0
  go_enter Tryd.func60, Tryd.ntmps60
  go_wp2_with (first | (go_at_call 59; (with_reducible refine ht.mono ?_); rintro e w1 ⟨rfl, hR1, hX1⟩; have htk := next_any w1 lo g q y hR1 n hn; rw [hzz w1 hR1] at htk) | (go_at_call 75; (with_reducible refine htk.mono ?_); rintro e w3 ⟨u, rfl, h1, h2, h3⟩))
  go_ret
  exact ⟨u, rfl, own_base h1 hX1.size, h2, hX1.trans h3⟩
def RTextP (lo g : Nat) (w : World) (r : ByteArray × List UInt8 × Int) (e : Ending) (w' : World) : Prop := e = .returned (.string r.1) ∧ RefAt w' lo g r.2.1 r.2.2 ∧ Exc g (g + 1) w w'
set_option maxHeartbeats 1000000 in
set_option maxRecDepth 100000 in
theorem rtext_any (w : World) (lo g : Nat) (bs : List UInt8) (why : Int) (hR : RefAt w lo g bs why) (most : Int) (hm : most ≤ 1099511627776) :
    Calls Tryd.prog 57 #[.pointer (some ⟨g, 0, none⟩), .int .i64 most] w (RTextP lo g w (textG most bs why)) := by
  have ht := rblob_any w lo g bs why hR most hm
  unfold textG
  obtain ⟨r, hr⟩ : ∃ r, blobG most bs why = r := ⟨_, rfl⟩
  rw [hr] at ht ⊢
  obtain ⟨p, q⟩ := r
  clear hR hr
  go_enter Tryd.func57, Tryd.ntmps57
  go_wp2_with (first | (go_at_call 60; (with_reducible refine ht.mono ?_); rintro e w1 ⟨u, rfl, hown, h3, h4⟩; obtain ⟨A, c, hu, -, -, h5⟩ := own_bytes (lo := 0) (hi := w1.heap.size) hown (Nat.zero_le _) (Nat.le_refl _); have h5 := h5.mono only_cle; subst hu; clear hown) | (refine wpList_to_string rfl (.tmp 7) rfl A p.length c p rfl h5 ?_))
  go_ret
  exact ⟨rfl, h3, h4⟩
set_option maxHeartbeats 1000000 in
set_option maxRecDepth 100000 in
theorem rread_any (w : World) (A : Option Addr) (c : Nat) (l : List UInt8) (hS : Rd.u8.Sl w A l.length l) (hc : l.length ≤ c) (hn : l.length ≤ 4294967296) :
    Calls Tryd.prog 56 #[.slice A l.length c] w fun e w' => ∃ g, e = .returned (.pointer (some ⟨g, 0, none⟩)) ∧ RefAt w' w.heap.size g l 0 ∧ w.heap.size ≤ g ∧ g + 1 = w'.heap.size ∧ Ext w w' := by
  have hcl := copyBytes_any w A c l hS hc hn
  obtain ⟨n, hln⟩ : ∃ n, l.length = n := ⟨_, rfl⟩
  rw [hln] at hcl ⊢
  clear hS
  go_enter Tryd.func56, Tryd.ntmps56
  go_wp2_with (go_at_call 25; (with_reducible refine hcl.mono ?_); rintro e w1 ⟨u, rfl, hown, hE1⟩; obtain ⟨A1, c1, hu, h1, h2, h3⟩ := own_bytes (lo := w.heap.size) (hi := w1.heap.size) (l := l) (by rw [hln]; exact hown) (Nat.le_refl _) (Nat.le_refl _); rw [hln] at hu h1 h3; subst hu; clear hown hcl)
  go_ret
  refine ⟨w1.heap.size, rfl, ⟨l, 0, A1, c1, ?_, by rw [hln]; exact h1, hn, Nat.zero_le _, fun _ => rfl, fun h => absurd rfl h, ?_⟩, hE1.le, by simp, hE1.alloc _⟩
  · rw [hln]; exact Blk.new _ _ _
  · rw [hln, only_ext ((Ext.refl w1).alloc _) (Nat.le_refl _)]
    exact h3
end Go.Proofs.YtkmjnbfhfjafpaaDoor
