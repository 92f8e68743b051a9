/- What lays numbers, bytes and texts: the document's answer. -/
import Derived.Test.YtkmjnbfhfjafpaaDoorPack
namespace Go.Proofs.YtkmjnbfhfjafpaaDoor
set_option linter.unusedVariables false
set_option linter.unusedSimpArgs false
open Go.RowKit
def idx : Nat → Int
  | 0 => -1
  | m + 1 => m
def uOf (v : Int) : Nat := (v % 18446744073709551616).toNat
theorem uOf_wrap (v : Int) : IntKind.u64.wrap v = (uOf v : Int) := by
  unfold uOf
  rw [IntKind.wrap_u64, Int.toNat_of_nonneg (Int.emod_nonneg _ (by decide))]
theorem uOf_lt (v : Int) : uOf v < 18446744073709551616 := by
  unfold uOf
  have h1 := Int.emod_nonneg v (show (18446744073709551616 : Int) ≠ 0 by decide)
  have h2 := Int.emod_lt_of_pos v (show (0 : Int) < 18446744073709551616 by decide)
  omega
theorem uOf_byte (v : Int) : ∀ m, m < 8 → (uOf v / 256 ^ m) % 256 = (byteAt v m).toNat := by
  intro m hm
  have h := byteAt_val v m
  have hu : (uOf v : Int) = v % 18446744073709551616 := by
    unfold uOf; rw [Int.toNat_of_nonneg (Int.emod_nonneg _ (by decide))]
  have key : ((uOf v / 256 ^ m % 256 : Nat) : Int) = ((byteAt v m).toNat : Int) := by
    rw [h, Int.natCast_emod, Int.natCast_ediv, hu]
    obtain rfl | rfl | rfl | rfl | rfl | rfl | rfl | rfl : m = 0 ∨ m = 1 ∨ m = 2 ∨ m = 3 ∨ m = 4 ∨ m = 5 ∨ m = 6 ∨ m = 7 := by omega
    all_goals (simp <;> omega)
  exact Int.natCast_inj.1 key
theorem num8_take (v : Int) (m : Nat) (hm : m < 8) : (num8 v).take (8 - m) = (num8 v).take (7 - m) ++ [byteAt v m] := by
  obtain rfl | rfl | rfl | rfl | rfl | rfl | rfl | rfl : m = 0 ∨ m = 1 ∨ m = 2 ∨ m = 3 ∨ m = 4 ∨ m = 5 ∨ m = 6 ∨ m = 7 := by omega
  all_goals rfl
set_option maxHeartbeats 1000000 in
set_option maxRecDepth 100000 in
theorem refInt_any (w : World) (A : Option Addr) (c : Nat) (l : List UInt8) (hS : Rd.u8.Sl w A l.length l) (hc : l.length ≤ c) (hn : l.length ≤ 4294967296) (v : Int) :
    Calls Tryd.prog 34 #[.slice A l.length c, .int .i64 v] w fun e w' => ∃ u, e = .returned u ∧ w'.ownsRow w.heap.size 5 1 u (l.length + 8) ((l ++ num8 v).flatMap encB) ∧ Ext w w' := by
  have hcp := copyBytes_any w A c l hS hc hn
  obtain ⟨n, hln⟩ : ∃ n, l.length = n := ⟨_, rfl⟩
  rw [hln] at hcp hc hn ⊢
  have hw := uOf_wrap v
  have hul := uOf_lt v
  obtain ⟨u, hu⟩ : ∃ u, uOf v = u := ⟨_, rfl⟩
  rw [hu] at hw hul
  clear hS
  go_enter Tryd.func34, Tryd.ntmps34
  go_wp2_with (go_at_call 25; (with_reducible refine hcp.mono ?_); rintro e w1 ⟨v1, rfl, hown1, hE1⟩)
  clear hcp hw
  go_loopw [5, 7] (fun s5 i wr => ∃ j : Nat, j ≤ 8 ∧ i = .int .i64 (idx j) ∧ wr.ownsRow w.heap.size 5 1 s5 (n + (8 - j)) ((l ++ (num8 v).take (8 - j)).flatMap encB) ∧ Ext w wr) (fun _ i _ => (intOf i + 1).toNat)
  case atStart => exact ⟨8, by omega, rfl, by simpa using hown1, hE1⟩
  case round =>
    clear hown1 hE1
    obtain ⟨j, hj, rfl, hown, hwr⟩ := hrel
    cases j with
    | zero =>
      simp only [idx]
      go_wp2_with fail
      go_ret
      exact ⟨_, rfl, by simpa [num8] using hown, hwr⟩
    | succ m =>
      have hm : m ≤ 7 := by omega
      have hb := uOf_byte v m (by omega)
      have ht := num8_take v m (by omega)
      rw [hu] at hb
      have HB := Lib.hid hb
      have HT := Lib.hid ht
      obtain ⟨wo, rfl⟩ : ∃ wo : World, wo = wr := ⟨_, rfl⟩
      clear hb ht
      simp only [idx]
      go_wp2_with fail
      go_loop [8, 9] (fun x s => ∃ q a : Nat, q ≤ m ∧ s = .int .i64 q ∧ a = u / 256 ^ q ∧ a < 18446744073709551616 ∧ x = .int .u64 a) (fun _ s => m - (intOf s).toNat)
      case atStart => exact ⟨0, u, by omega, rfl, by simp, hul, rfl⟩
      case round =>
        obtain ⟨q, a, hq, rfl, ha, hal, rfl⟩ := hrel
        by_cases hlt : q < m
        · have hs : a / 256 = u / 256 ^ (q + 1) := by rw [ha, Nat.pow_succ, Nat.div_div_eq_div_mul]
          have HS := Lib.hid hs
          clear hs ha hown
          go_wp2_with fail
          go_round
          case rel => exact ⟨q + 1, a / 256, by omega, by go_num, HS.out, by omega, by go_num⟩
          case measure => simp [intOf]; omega
        · obtain rfl : q = m := by omega
          have hb := HB.out
          rw [← ha] at hb
          have hbv : (a : Int) % 256 = ((byteAt v q).toNat : Int) := by omega
          have ht := HT.out
          generalize byteAt v q = y at *
          have HT := Lib.hid ht
          clear hb ha ht
          go_wp2_with (at_builtin; refine wpList_append_cells (news := [.int .u8 y.toNat]) rfl elt_bytes (.tmp 26) (.tmp 30) rfl (hown.alloc _) rfl rfl ?c0 ?c1 ?c2 ?c3 ?c4 ?_)
          case c0 => exact ⟨rfl, (fun h => by cases h), fun ad h j u hu => (by cases h; exact new_cells wo _ #[.int .u8 y.toNat] j u hu)⟩
          case c1 => first | rfl | (intro u hu; simp at hu; subst hu; rfl)
          case c2 => unfold maxLen; omega
          case c3 => omega
          case c4 => have := hwr.le; simp; omega
          intro v' w3 hown' hgrow
          have hE := grown_ext (hwr.alloc _) (hown.alloc _) hgrow
          have hown2 : w3.ownsRow w.heap.size 5 1 v' (n + (8 - q)) ((l ++ (num8 v).take (8 - q)).flatMap encB) := by
            rw [HT.out, ← List.append_assoc, List.flatMap_append, show n + (8 - q) = n + (8 - (q + 1)) + 1 by omega]
            simpa [encB, List.flatMap_append, show 8 - (q + 1) = 7 - q by omega] using hown'
          clear hown hgrow hown' hbv
          go_wp2_with fail
          go_roundw
          case rel => exact ⟨q, by omega, (by cases q <;> simp [idx] <;> omega), hown2, hE⟩
          case measure => cases q <;> simp [intOf, idx] <;> omega
set_option maxHeartbeats 1000000 in
set_option maxRecDepth 100000 in
theorem refBlob_any (w : World) (A : Option Addr) (c : Nat) (l : List UInt8) (hS : Rd.u8.Sl w A l.length l) (hc : l.length ≤ c) (hn : l.length ≤ 1073741824) (A' : Option Addr) (c' : Nat) (p : List UInt8) (hS' : Rd.u8.Sl w A' p.length p) (hc' : p.length ≤ c') (hn' : p.length ≤ 4294967296) :
    Calls Tryd.prog 35 #[.slice A l.length c, .slice A' p.length c'] w fun e w' => ∃ u, e = .returned u ∧ w'.ownsRow w.heap.size 5 1 u (l.length + 8 + p.length) ((l ++ num8 p.length ++ p).flatMap encB) ∧ Ext w w' := by
  have hi := refInt_any w A c l hS hc (by omega) p.length
  obtain ⟨n, hln⟩ : ∃ n, l.length = n := ⟨_, rfl⟩
  obtain ⟨m, hpm⟩ : ∃ n, p.length = n := ⟨_, rfl⟩
  rw [hln] at hi hc hn ⊢
  rw [hpm] at hi hc' hn' hS' ⊢
  generalize l ++ num8 m = L at *
  clear hS hln
  go_enter Tryd.func35, Tryd.ntmps35
  go_wp2_with (go_at_call 34; (with_reducible refine hi.mono ?_); rintro e w1 ⟨v1, rfl, hown1, hE1⟩)
  clear hi
  go_loopw [5, 6] (fun s5 i wr => ∃ k : Nat, k ≤ m ∧ i = .int .i64 k ∧ wr.ownsRow w.heap.size 5 1 s5 (n + 8 + k) ((L ++ p.take k).flatMap encB) ∧ Ext w wr) (fun _ i _ => m - (intOf i).toNat)
  case atStart => exact ⟨0, by omega, rfl, by simpa using hown1, hE1⟩
  case round =>
    clear hown1 hE1
    obtain ⟨k, hkn, rfl, hown, hwr⟩ := hrel
    by_cases hlt : k < m
    · obtain ⟨b, o, rfl, x0⟩ := b_get hS' k hlt
      have htk : (L ++ p.take (k + 1)).flatMap encB = (L ++ p.take k).flatMap encB ++ [.int .u8 (p[k]'(by omega)).toNat] := by
        rw [List.flatMap_append, b_one (by omega), List.flatMap_append, List.append_assoc]
      generalize hx : p[k]'(by omega) = x at *
      have x0 := hwr.cellk x0
      clear hx hS'
      generalize (L ++ p.take k).flatMap encB = M at *
      go_wp2_with (at_builtin; refine wpList_append_cells (news := [.int .u8 x.toNat]) rfl elt_bytes (.tmp 17) (.tmp 22) rfl (hown.alloc _) rfl rfl ?c0 ?c1 ?c2 ?c3 ?c4 ?_)
      case c0 => exact ⟨rfl, (fun h => by cases h), fun ad h j u hu => (by cases h; exact new_cells wr _ #[.int .u8 x.toNat] j u hu)⟩
      case c1 => first | rfl | (intro u hu; simp at hu; subst hu; rfl)
      case c2 => unfold maxLen; omega
      case c3 => omega
      case c4 => have := hwr.le; simp; omega
      intro v' w3 hown' hgrow
      have hE := grown_ext (hwr.alloc _) (hown.alloc _) hgrow
      rw [← htk] at hown'
      clear hown hgrow x0 htk
      go_wp2_with fail
      go_roundw
      case rel => exact ⟨k + 1, by omega, by go_num, hown', hE⟩
      case measure => simp [intOf]; omega
    · obtain rfl : k = m := by omega
      rw [← hpm, List.take_length] at hown
      rw [hpm] at hown
      go_wp2_with fail
      go_ret
      exact ⟨_, rfl, hown, hwr⟩
set_option maxHeartbeats 1000000 in
set_option maxRecDepth 100000 in
theorem refText_any (w : World) (A : Option Addr) (c : Nat) (l : List UInt8) (hS : Rd.u8.Sl w A l.length l) (hc : l.length ≤ c) (hn : l.length ≤ 1073741824) (s : ByteArray) (hs : s.size ≤ 4294967296) :
    Calls Tryd.prog 33 #[.slice A l.length c, .string s] w fun e w' => ∃ u, e = .returned u ∧ w'.ownsRow w.heap.size 5 1 u (l.length + 8 + s.size) ((l ++ num8 s.size ++ s.data.toList).flatMap encB) ∧ Ext w w' := by
  have hi := refInt_any w A c l hS hc (by omega) s.size
  obtain ⟨n, hln⟩ : ∃ n, l.length = n := ⟨_, rfl⟩
  rw [hln] at hi hc hn ⊢
  generalize l ++ num8 s.size = L at *
  clear hS hln
  go_enter Tryd.func33, Tryd.ntmps33
  go_wp2_with (go_at_call 34; (with_reducible refine hi.mono ?_); rintro e w1 ⟨v1, rfl, hown1, hE1⟩)
  clear hi
  go_loopw [5, 6] (fun s5 i wr => ∃ k : Nat, k ≤ s.size ∧ i = .int .i64 k ∧ wr.ownsRow w.heap.size 5 1 s5 (n + 8 + k) ((L ++ s.data.toList.take k).flatMap encB) ∧ Ext w wr) (fun _ i _ => s.size - (intOf i).toNat)
  case atStart => exact ⟨0, by omega, rfl, by simpa using hown1, hE1⟩
  case round =>
    clear hown1 hE1
    obtain ⟨k, hkn, rfl, hown, hwr⟩ := hrel
    by_cases hlt : k < s.size
    · have htk : (L ++ s.data.toList.take (k + 1)).flatMap encB = (L ++ s.data.toList.take k).flatMap encB ++ [.int .u8 s[k].toNat] := by
        have hk : k < s.data.toList.length := by simpa using hlt
        rw [List.flatMap_append, b_one hk, List.flatMap_append, List.append_assoc]
        rfl
      generalize hx : s[k] = x at *
      generalize (L ++ s.data.toList.take k).flatMap encB = M at *
      go_wp2_with (at_builtin; go_loud (refine wpList_append_cells (news := [.int .u8 x.toNat]) rfl elt_bytes (.tmp 17) (.tmp 21) rfl (hown.alloc _) rfl rfl ?c0 ?c1 ?c2 ?c3 ?c4 ?_))
      case c0 => exact ⟨rfl, (fun h => by cases h), fun ad h j u hu => (by cases h; exact new_cells wr _ #[.int .u8 x.toNat] j u hu)⟩
      case c1 => first | rfl | (intro u hu; simp at hu; subst hu; rfl)
      case c2 => unfold maxLen; omega
      case c3 => omega
      case c4 => have := hwr.le; simp; omega
      intro v' w3 hown' hgrow
      have hE := grown_ext (hwr.alloc _) (hown.alloc _) hgrow
      rw [← htk] at hown'
      clear hown hgrow htk hx
      go_wp2_with fail
      go_roundw
      case rel => exact ⟨k + 1, by omega, by go_num, hown', hE⟩
      case measure => simp [intOf]; omega
    · obtain rfl : k = s.size := by omega
      have e : s.data.toList.take s.size = s.data.toList := List.take_of_length_le (by simp)
      rw [e] at hown
      clear e
      go_wp2_with fail
      go_ret
      exact ⟨_, rfl, hown, hwr⟩
end Go.Proofs.YtkmjnbfhfjafpaaDoor
