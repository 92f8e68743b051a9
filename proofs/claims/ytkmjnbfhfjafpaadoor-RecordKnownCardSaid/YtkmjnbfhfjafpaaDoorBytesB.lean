/- Bytes: marks, what is lent and kept; what is written over. -/
import Derived.Test.YtkmjnbfhfjafpaaDoorBytes
namespace Go.Proofs.YtkmjnbfhfjafpaaDoor
set_option linter.unusedVariables false
set_option linter.unusedSimpArgs false
open Go.RowKit
def markB (k : Nat) : UInt8 := UInt8.ofNat (201 + 7 * k)
def marksB (k : Nat) : List UInt8 := (List.range k).map markB
theorem marksB_len (k : Nat) : (marksB k).length = k := by simp [marksB]
theorem marksB_one (l : List UInt8) (k : Nat) : (l ++ marksB (k + 1)).flatMap encB = (l ++ marksB k).flatMap encB ++ [.int .u8 (markB k).toNat] := by
  unfold marksB
  rw [List.range_succ, List.map_append, ← List.append_assoc, List.flatMap_append (xs := l ++ _)]
  rfl
theorem markB_val (k : Nat) : IntKind.u8.wrap (201 + 7 * (k : Int)) = ((markB k).toNat : Int) := by
  unfold markB
  rw [UInt8.toNat_ofNat']
  simp [IntKind.wrap, IntKind.signed, IntKind.bits]
set_option maxHeartbeats 1000000 in
set_option maxRecDepth 100000 in
theorem markB_any (k : Nat) (hk : k ≤ 8589934592) (w : World) : Calls Tryd.prog 47 #[.int .i64 k] w fun e w' => e = .returned (.int .u8 (markB k).toNat) ∧ w = w' := by
  have hv := markB_val k
  go_enter Tryd.func47, Tryd.ntmps47
  go_wp2_with fail
  go_ret
  exact ⟨ret_int (by first | exact hv | (rw [← hv])), rfl⟩
set_option maxHeartbeats 1000000 in
set_option maxRecDepth 100000 in
theorem lentBytes_any (w : World) (A : Option Addr) (c : Nat) (l : List UInt8) (hS : Rd.u8.Sl w A l.length l) (hc : l.length ≤ c) (hn : l.length ≤ 4294967296) :
    Calls Tryd.prog 19 #[.slice A l.length c] w fun e w' => ∃ v, e = .returned v ∧ w'.ownsRow w.heap.size 5 1 v (l.length + 5) ((l ++ marksB 5).flatMap encB) ∧ Ext w w' := by
  have hcp := copyBytes_any w A c l hS hc hn
  obtain ⟨n, hln⟩ : ∃ n, l.length = n := ⟨_, rfl⟩
  rw [hln] at hcp hc hn ⊢
  clear hS
  go_enter Tryd.func19, Tryd.ntmps19
  go_wp2_with fail
  refine hcp.mono ?_
  rintro e w1 ⟨v1, rfl, hown1, hE1⟩
  clear hcp
  go_wp2_with fail
  go_loopw [3, 4] (fun s3 i wr => ∃ k : Nat, k ≤ 5 ∧ i = .int .i64 k ∧ wr.ownsRow w.heap.size 5 1 s3 (n + k) ((l ++ marksB k).flatMap encB) ∧ Ext w wr) (fun _ i _ => 5 - (intOf i).toNat)
  case atStart => exact ⟨0, by omega, rfl, by simpa [marksB] using hown1, hE1⟩
  case round =>
    clear hown1 hE1
    obtain ⟨k, hkn, rfl, hown, hwr⟩ := hrel
    by_cases hlt : k < 5
    · have htk := marksB_one l k
      generalize hx : markB k = x at *
      go_wp2_with (first | (go_at_call 47; (with_reducible refine (markB_any k (by omega) _).mono ?_); rintro e w2 ⟨rfl, rfl⟩; rw [hx]) | (at_builtin; refine wpList_append_cells (news := [.int .u8 x.toNat]) rfl elt_bytes (.tmp 11) (.tmp 14) rfl (hown.alloc _) rfl rfl ?c0 ?c1 ?c2 ?c3 ?c4 ?_))
      case c0 => exact ⟨rfl, (fun h => by cases h), fun ad h j u hu => (by cases h; exact new_cells wr _ #[.int .u8 x.toNat] j u hu)⟩
      case c1 => intro u hu; simp at hu; subst hu; rfl
      case c2 => unfold maxLen; omega
      case c3 => omega
      case c4 => have := hwr.le; simp; omega
      intro v' w3 hown' hgrow
      have hE := grown_ext (hwr.alloc _) (hown.alloc _) hgrow
      have hown2 : w3.ownsRow w.heap.size 5 1 v' (n + (k + 1)) ((l ++ marksB (k + 1)).flatMap encB) := by
        rw [htk, ← Nat.add_assoc]; simpa [List.flatMap_append] using hown'
      clear hown hgrow htk hown' hx
      go_wp2_with fail
      go_roundw
      case rel => exact ⟨k + 1, by omega, by go_num, hown2, hE⟩
      case measure => simp [intOf]; omega
    · obtain rfl : k = 5 := by omega
      go_wp2_with fail
      go_ret
      exact ⟨_, rfl, hown, hwr⟩
set_option maxHeartbeats 1000000 in
set_option maxRecDepth 100000 in
theorem keptBytes_any (w : World) (A : Option Addr) (c : Nat) (l : List UInt8) (hS : Rd.u8.Sl w A l.length l) (hc : l.length ≤ c) (hn : l.length ≤ 4294967296) (A1 : Option Addr) (c1 : Nat) (hS1 : Rd.u8.Sl w A1 (l.length + 5) (l ++ marksB 5)) (hc1 : l.length + 5 ≤ c1) (hcm : c1 ≤ maxLen) :
    Calls Tryd.prog 23 #[.slice A1 (l.length + 5) c1, .slice A l.length c] w fun e w' => e = .returned (.bool true) ∧ Ext w w' := by
  have hT : Rd.u8.Sl w A1 l.length l := ⟨rfl, fun h0 => by
    obtain ⟨b, o, e, h⟩ := hS1.2 (by omega)
    refine ⟨b, o, e, fun i hi => ?_⟩
    have := h i (by rw [List.length_append]; omega)
    rwa [List.getElem_append_left hi] at this⟩
  have hD := sl_rest hS1 c1 l.length (by omega) hc1
  rw [List.drop_left] at hD
  have h1 := fun w' c2 (hE : Ext w w') (h2 : l.length ≤ c2) => sameBytes_any w' A1 c2 l (hT.ext hE) h2 (by omega) A c l (hS.ext hE) hc
  have h2 := fun w' c2 (hE : Ext w w') (h2 : (marksB 5).length ≤ c2) A3 c3 (hS3 : Rd.u8.Sl w' A3 (marksB 5).length (marksB 5)) (h3 : (marksB 5).length ≤ c3) => sameBytes_any w' (restA A1 c1 l.length 1) c2 (marksB 5) (by rw [marksB_len]; have h := hD.ext hE; rw [Nat.add_sub_cancel_left] at h; exact h) h2 (by rw [marksB_len]; omega) A3 c3 (marksB 5) hS3 h3
  rw [marksB_len] at h2
  simp only [beq_self_eq_true] at h1 h2
  obtain ⟨n, hln⟩ : ∃ n, l.length = n := ⟨_, rfl⟩
  rw [hln] at hS hn hc hc1 h1 h2 hT ⊢
  clear hS hS1 hT hD
  unfold maxLen at hcm
  have hwn : wrap64 ((n : Int) + 5) = (n : Int) + 5 := IntWalk.wrap64_in _ ⟨by omega, by omega⟩
  go_enter Tryd.func23, Tryd.ntmps23
  go_wp2_with (go_at_call 16; (with_reducible refine (h1 _ _ (Ext.refl _) (by omega)).mono ?_); rintro e w1 ⟨rfl, hE1⟩)
  go_loopw [5, 6] (fun s3 i wr => ∃ k : Nat, k ≤ 5 ∧ i = .int .i64 k ∧ wr.ownsRow w.heap.size 5 1 s3 k ((marksB k).flatMap encB) ∧ Ext w wr) (fun _ i _ => 5 - (intOf i).toNat)
  case atStart => exact ⟨0, by omega, rfl, World.ownsRow_nil _ _ _ _, hE1⟩
  case round =>
    clear hE1
    obtain ⟨k, hkn, rfl, hown, hwr⟩ := hrel
    by_cases hlt : k < 5
    · have htk := marksB_one [] k
      simp only [List.nil_append] at htk
      generalize hx : markB k = x at *
      go_wp2_with (first | (go_at_call 47; (with_reducible refine (markB_any k (by omega) _).mono ?_); rintro e w2 ⟨rfl, rfl⟩; rw [hx]) | (at_builtin; refine wpList_append_cells (news := [.int .u8 x.toNat]) rfl elt_bytes (.tmp 26) (.tmp 29) rfl (hown.alloc _) rfl rfl ?c0 ?c1 ?c2 ?c3 ?c4 ?_))
      case c0 => exact ⟨rfl, (fun h => by cases h), fun ad h j u hu => (by cases h; exact new_cells wr _ #[.int .u8 x.toNat] j u hu)⟩
      case c1 => intro u hu; simp at hu; subst hu; rfl
      case c2 => unfold maxLen; omega
      case c3 => omega
      case c4 => have := hwr.le; simp; omega
      intro v' w3 hown' hgrow
      have hE := grown_ext (hwr.alloc _) (hown.alloc _) hgrow
      rw [← htk] at hown'
      clear hown hgrow htk hx
      go_wp2_with fail
      go_roundw
      case rel => exact ⟨k + 1, by omega, by go_num, hown', hE⟩
      case measure => simp [intOf]; omega
    · obtain rfl : k = 5 := by omega
      obtain ⟨A3, c3, rfl, hc3, _, hS3⟩ := own_bytes (lo := 0) (hi := wr.heap.size) (l := marksB 5) (by rw [marksB_len]; exact hown) (Nat.zero_le _) (Nat.le_refl _)
      have hS3 := hS3.mono only_cle
      rw [marksB_len] at hc3 hS3 ⊢
      have h3 := h2 wr (c1 - n) hwr (by omega) A3 c3 hS3 hc3
      go_wp2_with (refine wpList_slice_from rfl elt_bytes (.tmp 31) (.tmp 33) rfl A1 (n + 5) c1 n rfl rfl (by omega) ?_)
      refine h3.mono ?_
      rintro e w4 ⟨rfl, hE4⟩
      go_wp2_with fail
      go_ret
      exact ⟨rfl, hwr.trans hE4⟩
set_option maxHeartbeats 1000000 in
set_option maxRecDepth 100000 in
theorem spoilBytes_any (w : World) (lo hi : Nat) (A : Option Addr) (c : Nat) (l : List UInt8) (hS : Rd.u8.Sl (only w lo hi) A l.length l) (hc : l.length ≤ c) (hn : l.length ≤ 4294967296) :
    Calls Tryd.prog 17 #[.slice A l.length c] w fun e w' => e = .returned (.tuple #[]) ∧ Exc lo hi w w' ∧ Kind w w' := by
  obtain ⟨n, hln⟩ : ∃ n, l.length = n := ⟨_, rfl⟩
  rw [hln] at hS hc hn ⊢
  go_enter Tryd.func17, Tryd.ntmps17
  go_wp2_with fail
  go_loopw [2] (fun i wr => ∃ k : Nat, k ≤ n ∧ i = .int .i64 k ∧ Exc lo hi w wr ∧ Kind w wr) (fun i _ => n - (intOf i).toNat)
  case atStart => exact ⟨0, by omega, rfl, Exc.refl _ _ _, Kind.refl _⟩
  case round =>
    obtain ⟨k, hkn, rfl, hwr, hK⟩ := hrel
    by_cases hlt : k < n
    · obtain ⟨b, o, rfl, x0⟩ := b_get hS k hlt
      obtain ⟨y', y0, hyx⟩ := hK.only x0
      obtain ⟨hl1, hl2, hy, hf2, _⟩ := only_cell y0
      obtain ⟨y, rfl⟩ : ∃ y : UInt8, y' = .int .u8 y.toNat := by
        rcases hyx with rfl | ⟨_, y, _, rfl⟩
        · exact ⟨_, rfl⟩
        · exact ⟨y, rfl⟩
      clear x0 y0 hyx hS
      have hK2 := fun (z : UInt8) => hK.trans (Kind.set hy z)
      go_wp2_with (go_at_call 47; rw [show ((k : Int) + 7) = ((k + 7 : Nat) : Int) by omega]; (with_reducible refine (markB_any (k + 7) (by omega) _).mono ?_); rintro e w2 ⟨rfl, rfl⟩)
      go_roundw
      case rel => exact ⟨k + 1, by omega, by go_num, hwr.trans (Exc.setCell hl1 hl2 _), hK2 _⟩
      case measure => simp [intOf]; omega
    · obtain rfl : k = n := by omega
      go_wp2_with fail
      go_end0
      exact ⟨rfl, hwr, hK⟩
end Go.Proofs.YtkmjnbfhfjafpaaDoor
