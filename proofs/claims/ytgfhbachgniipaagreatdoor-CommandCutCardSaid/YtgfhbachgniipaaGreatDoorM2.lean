/- Bytes: held against one another, copied, lent, kept, written over. (and what follows) -/
import Derived.Test.YtgfhbachgniipaaGreatDoorM1
import Derived.Laws.MakeOwn
import Derived.Lib.AppendStr
/-! Bytes: held against one another, copied, lent, kept, written over. -/
namespace Go.Proofs.YtgfhbachgniipaaGreatDoor
set_option linter.unusedVariables false
set_option linter.unusedSimpArgs false
open Go.RowKit
def encB (b : UInt8) : List Value := [.int .u8 b.toNat]
theorem encB_len (x : UInt8) : (encB x).length = Rd.u8.sz := rfl
theorem encB_K (w : World) (x : UInt8) : Rd.u8.K w x (encB x) := rfl
theorem encB_one (l : List UInt8) : ∀ u ∈ l.flatMap encB, u.oneCell' = true := by
  intro u hu
  obtain ⟨x, _, hx⟩ := List.mem_flatMap.1 hu
  simp [encB] at hx
  subst hx; rfl
theorem elt_bytes : Elt Tryz.prog 35 5 1 1 := Elt.mk' (z := .int .u8 0) Tryz.underlying35 (by kernel_rfl) rfl (by decide)
theorem b_get {w : World} {A : Option Addr} {n : Nat} {l : List UInt8} (h : Rd.u8.Sl w A n l) (k : Nat) (hk : k < n) : ∃ b o, A = some ⟨b, o, none⟩ ∧ w.cell? ⟨b, o + k, none⟩ = some (.int .u8 (l[k]'(by rw [h.1]; exact hk)).toNat) := by
  obtain ⟨b, o, cs, e, hK, hc⟩ := h.get k hk
  have h0 := hc 0 _ (by rw [show cs = [_] from hK]; rfl)
  refine ⟨b, o, e, ?_⟩
  simpa [Rd.u8] using h0
theorem b_cells {w : World} {A : Option Addr} {n : Nat} {l : List UInt8} (h : Rd.u8.Sl w A n l) : Cells w A n 1 (l.flatMap encB) := sl_cellsOf (fun _ _ _ h => h) (fun _ => rfl) h
theorem b_one {l : List UInt8} {k : Nat} (h : k < l.length) : (l.take (k + 1)).flatMap encB = (l.take k).flatMap encB ++ [.int .u8 l[k].toNat] := by
  rw [List.take_succ_eq_append_getElem h, List.flatMap_append]
  rfl
theorem u8_ne {x y : UInt8} (h : x ≠ y) : (((x.toNat : Int)) == ((y.toNat : Int))) = false := by
  rw [beq_eq_false_iff_ne]
  intro e
  exact h (UInt8.toNat_inj.1 (by omega))
theorem take_eq_one {α : Type} {l m : List α} {k : Nat} (hl : k < l.length) (hm : k < m.length) (h : l.take k = m.take k) (e : l[k] = m[k]) : l.take (k + 1) = m.take (k + 1) := by
  rw [List.take_succ_eq_append_getElem hl, List.take_succ_eq_append_getElem hm, h, e]
theorem own_bytes {w : World} {lo hi base : Nat} {e : TypeId} {v : Value} {l : List UInt8} (h : w.ownsRow base e 1 v l.length (l.flatMap encB)) (hb : lo ≤ base) (hh : w.heap.size ≤ hi) : ∃ A c, v = .slice A l.length c ∧ l.length ≤ c ∧ c ≤ maxLen ∧ Rd.u8.Sl (only w lo hi) A l.length l :=
  own_only (d := Rd.u8) encB_len encB_K h hb hh
set_option maxHeartbeats 1000000 in
set_option maxRecDepth 100000 in
theorem sameBytes_any (w : World) (A : Option Addr) (c : Nat) (l : List UInt8) (hS : Rd.u8.Sl w A l.length l) (hc : l.length ≤ c) (hn : l.length ≤ 9223372036854775807) (A' : Option Addr) (c' : Nat) (m : List UInt8) (hS' : Rd.u8.Sl w A' m.length m) (hc' : m.length ≤ c') :
    Calls Tryz.prog 16 #[.slice A l.length c, .slice A' m.length c'] w fun e w' => e = .returned (.bool (l == m)) ∧ Ext w w' := by
  obtain ⟨v, hv⟩ : ∃ v, (l == m) = v := ⟨_, rfl⟩
  rw [hv]
  obtain ⟨n, hln⟩ : ∃ n, l.length = n := ⟨_, rfl⟩
  obtain ⟨n', hmn⟩ : ∃ n, m.length = n := ⟨_, rfl⟩
  rw [hln] at hS hc hn ⊢
  rw [hmn] at hS' hc' ⊢
  go_enter Tryz.func16, Tryz.ntmps16
  by_cases hlen : n = n'
  · subst hlen
    go_wp2_with fail
    go_loopw [5] (fun i wr => ∃ k : Nat, k ≤ n ∧ i = .int .i64 k ∧ l.take k = m.take k ∧ Ext w wr) (fun i _ => n - (intOf i).toNat)
    case atStart => exact ⟨0, by omega, rfl, rfl, Ext.refl _⟩
    case round =>
      obtain ⟨k, hkn, rfl, ht, hwr⟩ := hrel
      by_cases hlt : k < n
      · obtain ⟨b, o, rfl, x0⟩ := b_get hS k hlt
        obtain ⟨b', o', rfl, y0⟩ := b_get hS' k hlt
        have tk := take_eq_one (by omega) (by omega) ht
        generalize hx : l[k]'(by omega) = x at *
        generalize hy : m[k]'(by omega) = y at *
        have r0 := fun (w' : World) (h : Ext wr w') => (hwr.trans h).cellk x0
        have r1 := fun (w' : World) (h : Ext wr w') => (hwr.trans h).cellk y0
        have hY : Ext wr wr := Ext.refl wr
        have hne : x ≠ y → v = false := fun h => by
          rw [← hv, beq_eq_false_iff_ne]
          rintro rfl
          exact h (hx.symm.trans hy)
        clear hS hS' hx hy x0 y0
        go_wp2_with fail
        by_cases hxy : x = y
        · subst hxy
          have tk := tk rfl
          clear hne ht
          refine st_start (fun _ w' => Ext wr w') (fun _ => false) (by kernel_rfl) (by kernel_rfl) (by (repeat (first | assumption | exact Ext.refl _ | refine Ext.drew ?_ | refine Ext.alloc ?_ _ | refine Ext.drewN ?_ _ | refine Ext.trans ?_ (by assumption)))) ?_
          iterate 10 (first | (refine st_off (a' := ?_) rfl (by rfl) rfl ?_ ?_; rotate_left 1; (· simp only [Act.put, List.setIfInBounds_toArray, List.set_cons_zero, List.set_cons_succ]; rfl)) | (refine st_y (v := ?_) (a' := ?_) rfl (by rfl) rfl (fun k w' hw' => ?_) ?_ ?_; rotate_left 2; (· go_simp; with_reducible rfl); (· simp only [Act.put, List.setIfInBounds_toArray, List.set_cons_zero, List.set_cons_succ]; rfl)))
          refine st_end ?_
          intro w1 hY1
          go_wp2_with fail
          go_roundw
          case rel => exact ⟨k + 1, by omega, by go_num, tk, hwr.trans hY1⟩
          case measure => simp [intOf]; omega
        · have hq := u8_ne hxy
          obtain rfl := hne hxy
          clear hne ht tk
          refine st_start (fun _ w' => Ext wr w') (fun _ => false) (by kernel_rfl) (by kernel_rfl) (by (repeat (first | assumption | exact Ext.refl _ | refine Ext.drew ?_ | refine Ext.alloc ?_ _ | refine Ext.drewN ?_ _ | refine Ext.trans ?_ (by assumption)))) ?_
          iterate 10 (first | (refine st_off (a' := ?_) rfl (by rfl) rfl ?_ ?_; rotate_left 1; (· simp only [Act.put, List.setIfInBounds_toArray, List.set_cons_zero, List.set_cons_succ]; rfl)) | (refine st_y (v := ?_) (a' := ?_) rfl (by rfl) rfl (fun k w' hw' => ?_) ?_ ?_; rotate_left 2; (· go_simp; with_reducible rfl); (· simp only [Act.put, List.setIfInBounds_toArray, List.set_cons_zero, List.set_cons_succ]; rfl)))
          refine st_end ?_
          intro w1 hY1
          go_wp2_with fail
          go_ret
          exact ⟨rfl, hwr.trans hY1⟩
      · obtain rfl : k = n := by omega
        have e : l = m := by rw [← List.take_length (l := l), ← List.take_length (l := m), hln, hmn]; exact ht
        go_wp2_with fail
        go_ret
        exact ⟨ret_bool (by rw [← hv, e]; simp), hwr⟩
  · have e : v = false := by
      rw [← hv, beq_eq_false_iff_ne]
      rintro rfl
      exact hlen (by rw [← hln, ← hmn])
    subst e
    go_wp2_with fail
    go_ret
    exact ⟨rfl, Ext.refl _⟩
set_option maxHeartbeats 1000000 in
set_option maxRecDepth 100000 in
theorem copyBytes_any (w : World) (A : Option Addr) (c : Nat) (l : List UInt8) (hS : Rd.u8.Sl w A l.length l) (hc : l.length ≤ c) (hn : l.length ≤ 4294967296) :
    Calls Tryz.prog 35 #[.slice A l.length c] w fun e w' => ∃ v, e = .returned v ∧ w'.ownsRow w.heap.size 5 1 v l.length (l.flatMap encB) ∧ Ext w w' := by
  obtain ⟨n, hln⟩ : ∃ n, l.length = n := ⟨_, rfl⟩
  rw [hln] at hS hc hn ⊢
  go_enter Tryz.func35, Tryz.ntmps35
  go_wp2_with fail
  go_loopw [3, 4] (fun s3 i wr => ∃ k : Nat, k ≤ n ∧ i = .int .i64 k ∧ wr.ownsRow w.heap.size 5 1 s3 k ((l.take k).flatMap encB) ∧ Ext w wr) (fun _ i _ => n - (intOf i).toNat)
  case atStart => exact ⟨0, by omega, rfl, World.ownsRow_nil _ _ _ _, Ext.refl _⟩
  case round =>
    obtain ⟨k, hkn, rfl, hown, hwr⟩ := hrel
    by_cases hlt : k < n
    · obtain ⟨b, o, rfl, x0⟩ := b_get hS k hlt
      have htk := b_one (l := l) (k := k) (by omega)
      generalize hx : l[k]'(by omega) = x at *
      have x0 := hwr.cellk x0
      clear hx hS
      go_wp2_with (at_builtin; refine wpList_append_cells (news := [.int .u8 x.toNat]) rfl elt_bytes (.tmp 11) (.tmp 16) rfl (hown.alloc _) rfl rfl ?c0 ?c1 ?c2 ?c3 ?c4 ?_)
      case c0 => exact ⟨rfl, (fun h => by cases h), fun ad h j u hu => (by cases h; exact new_cells wr _ #[.int .u8 x.toNat] j u hu)⟩
      case c1 => intro u hu; simp at hu; subst hu; rfl
      case c2 => unfold maxLen; omega
      case c3 => omega
      case c4 => have := hwr.le; simp; omega
      intro v' w1 hown' hgrow
      have hE := grown_ext (hwr.alloc _) (hown.alloc _) hgrow
      rw [← htk] at hown'
      clear hown hgrow x0 htk
      go_wp2_with fail
      go_roundw
      case rel => exact ⟨k + 1, by omega, by go_num, hown', hE⟩
      case measure => simp [intOf]; omega
    · obtain rfl : k = n := by omega
      rw [← hln, List.take_length] at hown
      rw [hln] at hown
      go_wp2_with fail
      go_ret
      exact ⟨_, rfl, hown, hwr⟩
end Go.Proofs.YtgfhbachgniipaaGreatDoor

/-! Bytes: marks, what is lent and kept; what is written over. -/
namespace Go.Proofs.YtgfhbachgniipaaGreatDoor
set_option linter.unusedVariables false
set_option linter.unusedSimpArgs false
open Go.RowKit
def markB (k : Nat) : UInt8 := UInt8.ofNat (201 + 7 * k)
def marksB (k : Nat) : List UInt8 := (List.range k).map markB
theorem marksB_len (k : Nat) : (marksB k).length = k := by simp [marksB]
theorem marksB_one (l : List UInt8) (k : Nat) : (l ++ marksB (k + 1)).flatMap encB = (l ++ marksB k).flatMap encB ++ [.int .u8 (markB k).toNat] := by
  unfold marksB
  rw [List.range_succ, List.map_append, ← List.append_assoc, List.flatMap_append (xs := l ++ _)]
  rfl
theorem markB_val (k : Nat) : IntKind.u8.wrap (201 + 7 * (k : Int)) = ((markB k).toNat : Int) := by
  unfold markB
  rw [UInt8.toNat_ofNat']
  simp [IntKind.wrap, IntKind.signed, IntKind.bits]
set_option maxHeartbeats 1000000 in
set_option maxRecDepth 100000 in
theorem markB_any (k : Nat) (hk : k ≤ 8589934592) (w : World) : Calls Tryz.prog 68 #[.int .i64 k] w fun e w' => e = .returned (.int .u8 (markB k).toNat) ∧ w = w' := by
  have hv := markB_val k
  go_enter Tryz.func68, Tryz.ntmps68
  go_wp2_with fail
  go_ret
  exact ⟨ret_int (by first | exact hv | (rw [← hv])), rfl⟩
set_option maxHeartbeats 1000000 in
set_option maxRecDepth 100000 in
theorem lentBytes_any (w : World) (A : Option Addr) (c : Nat) (l : List UInt8) (hS : Rd.u8.Sl w A l.length l) (hc : l.length ≤ c) (hn : l.length ≤ 4294967296) :
    Calls Tryz.prog 26 #[.slice A l.length c] w fun e w' => ∃ v, e = .returned v ∧ w'.ownsRow w.heap.size 5 1 v (l.length + 5) ((l ++ marksB 5).flatMap encB) ∧ Ext w w' := by
  have hcp := copyBytes_any w A c l hS hc hn
  obtain ⟨n, hln⟩ : ∃ n, l.length = n := ⟨_, rfl⟩
  rw [hln] at hcp hc hn ⊢
  clear hS
  go_enter Tryz.func26, Tryz.ntmps26
  go_wp2_with fail
  refine hcp.mono ?_
  rintro e w1 ⟨v1, rfl, hown1, hE1⟩
  clear hcp
  go_wp2_with fail
  go_loopw [3, 4] (fun s3 i wr => ∃ k : Nat, k ≤ 5 ∧ i = .int .i64 k ∧ wr.ownsRow w.heap.size 5 1 s3 (n + k) ((l ++ marksB k).flatMap encB) ∧ Ext w wr) (fun _ i _ => 5 - (intOf i).toNat)
  case atStart => exact ⟨0, by omega, rfl, by simpa [marksB] using hown1, hE1⟩
  case round =>
    clear hown1 hE1
    obtain ⟨k, hkn, rfl, hown, hwr⟩ := hrel
    by_cases hlt : k < 5
    · have htk := marksB_one l k
      generalize hx : markB k = x at *
      go_wp2_with (first | (go_at_call 68; (with_reducible refine (markB_any k (by omega) _).mono ?_); rintro e w2 ⟨rfl, rfl⟩; rw [hx]) | (at_builtin; refine wpList_append_cells (news := [.int .u8 x.toNat]) rfl elt_bytes (.tmp 11) (.tmp 14) rfl (hown.alloc _) rfl rfl ?c0 ?c1 ?c2 ?c3 ?c4 ?_))
      case c0 => exact ⟨rfl, (fun h => by cases h), fun ad h j u hu => (by cases h; exact new_cells wr _ #[.int .u8 x.toNat] j u hu)⟩
      case c1 => intro u hu; simp at hu; subst hu; rfl
      case c2 => unfold maxLen; omega
      case c3 => omega
      case c4 => have := hwr.le; simp; omega
      intro v' w3 hown' hgrow
      have hE := grown_ext (hwr.alloc _) (hown.alloc _) hgrow
      have hown2 : w3.ownsRow w.heap.size 5 1 v' (n + (k + 1)) ((l ++ marksB (k + 1)).flatMap encB) := by
        rw [htk, ← Nat.add_assoc]; simpa [List.flatMap_append] using hown'
      clear hown hgrow htk hown' hx
      go_wp2_with fail
      go_roundw
      case rel => exact ⟨k + 1, by omega, by go_num, hown2, hE⟩
      case measure => simp [intOf]; omega
    · obtain rfl : k = 5 := by omega
      go_wp2_with fail
      go_ret
      exact ⟨_, rfl, hown, hwr⟩
set_option maxHeartbeats 1000000 in
set_option maxRecDepth 100000 in
theorem keptBytes_any (w : World) (A : Option Addr) (c : Nat) (l : List UInt8) (hS : Rd.u8.Sl w A l.length l) (hc : l.length ≤ c) (hn : l.length ≤ 4294967296) (A1 : Option Addr) (c1 : Nat) (hS1 : Rd.u8.Sl w A1 (l.length + 5) (l ++ marksB 5)) (hc1 : l.length + 5 ≤ c1) (hcm : c1 ≤ maxLen) :
    Calls Tryz.prog 33 #[.slice A1 (l.length + 5) c1, .slice A l.length c] w fun e w' => e = .returned (.bool true) ∧ Ext w w' := by
  have hT : Rd.u8.Sl w A1 l.length l := ⟨rfl, fun h0 => by
    obtain ⟨b, o, e, h⟩ := hS1.2 (by omega)
    refine ⟨b, o, e, fun i hi => ?_⟩
    have := h i (by rw [List.length_append]; omega)
    rwa [List.getElem_append_left hi] at this⟩
  have hD := sl_rest hS1 c1 l.length (by omega) hc1
  rw [List.drop_left] at hD
  have h1 := fun w' c2 (hE : Ext w w') (h2 : l.length ≤ c2) => sameBytes_any w' A1 c2 l (hT.ext hE) h2 (by omega) A c l (hS.ext hE) hc
  have h2 := fun w' c2 (hE : Ext w w') (h2 : (marksB 5).length ≤ c2) A3 c3 (hS3 : Rd.u8.Sl w' A3 (marksB 5).length (marksB 5)) (h3 : (marksB 5).length ≤ c3) => sameBytes_any w' (restA A1 c1 l.length 1) c2 (marksB 5) (by rw [marksB_len]; have h := hD.ext hE; rw [Nat.add_sub_cancel_left] at h; exact h) h2 (by rw [marksB_len]; omega) A3 c3 (marksB 5) hS3 h3
  rw [marksB_len] at h2
  simp only [beq_self_eq_true] at h1 h2
  obtain ⟨n, hln⟩ : ∃ n, l.length = n := ⟨_, rfl⟩
  rw [hln] at hS hn hc hc1 h1 h2 hT ⊢
  clear hS hS1 hT hD
  unfold maxLen at hcm
  have hwn : wrap64 ((n : Int) + 5) = (n : Int) + 5 := IntWalk.wrap64_in _ ⟨by omega, by omega⟩
  go_enter Tryz.func33, Tryz.ntmps33
  go_wp2_with (go_at_call 16; (with_reducible refine (h1 _ _ (Ext.refl _) (by omega)).mono ?_); rintro e w1 ⟨rfl, hE1⟩)
  go_loopw [5, 6] (fun s3 i wr => ∃ k : Nat, k ≤ 5 ∧ i = .int .i64 k ∧ wr.ownsRow w.heap.size 5 1 s3 k ((marksB k).flatMap encB) ∧ Ext w wr) (fun _ i _ => 5 - (intOf i).toNat)
  case atStart => exact ⟨0, by omega, rfl, World.ownsRow_nil _ _ _ _, hE1⟩
  case round =>
    clear hE1
    obtain ⟨k, hkn, rfl, hown, hwr⟩ := hrel
    by_cases hlt : k < 5
    · have htk := marksB_one [] k
      simp only [List.nil_append] at htk
      generalize hx : markB k = x at *
      go_wp2_with (first | (go_at_call 68; (with_reducible refine (markB_any k (by omega) _).mono ?_); rintro e w2 ⟨rfl, rfl⟩; rw [hx]) | (at_builtin; refine wpList_append_cells (news := [.int .u8 x.toNat]) rfl elt_bytes (.tmp 26) (.tmp 29) rfl (hown.alloc _) rfl rfl ?c0 ?c1 ?c2 ?c3 ?c4 ?_))
      case c0 => exact ⟨rfl, (fun h => by cases h), fun ad h j u hu => (by cases h; exact new_cells wr _ #[.int .u8 x.toNat] j u hu)⟩
      case c1 => intro u hu; simp at hu; subst hu; rfl
      case c2 => unfold maxLen; omega
      case c3 => omega
      case c4 => have := hwr.le; simp; omega
      intro v' w3 hown' hgrow
      have hE := grown_ext (hwr.alloc _) (hown.alloc _) hgrow
      rw [← htk] at hown'
      clear hown hgrow htk hx
      go_wp2_with fail
      go_roundw
      case rel => exact ⟨k + 1, by omega, by go_num, hown', hE⟩
      case measure => simp [intOf]; omega
    · obtain rfl : k = 5 := by omega
      obtain ⟨A3, c3, rfl, hc3, _, hS3⟩ := own_bytes (lo := 0) (hi := wr.heap.size) (l := marksB 5) (by rw [marksB_len]; exact hown) (Nat.zero_le _) (Nat.le_refl _)
      have hS3 := hS3.mono only_cle
      rw [marksB_len] at hc3 hS3 ⊢
      have h3 := h2 wr (c1 - n) hwr (by omega) A3 c3 hS3 hc3
      go_wp2_with (refine wpList_slice_from rfl elt_bytes (.tmp 31) (.tmp 33) rfl A1 (n + 5) c1 n rfl rfl (by omega) ?_)
      refine h3.mono ?_
      rintro e w4 ⟨rfl, hE4⟩
      go_wp2_with fail
      go_ret
      exact ⟨rfl, hwr.trans hE4⟩
set_option maxHeartbeats 1000000 in
set_option maxRecDepth 100000 in
theorem spoilBytes_any (w : World) (lo hi : Nat) (A : Option Addr) (c : Nat) (l : List UInt8) (hS : Rd.u8.Sl (only w lo hi) A l.length l) (hc : l.length ≤ c) (hn : l.length ≤ 4294967296) :
    Calls Tryz.prog 17 #[.slice A l.length c] w fun e w' => e = .returned (.tuple #[]) ∧ Exc lo hi w w' ∧ Kind w w' := by
  obtain ⟨n, hln⟩ : ∃ n, l.length = n := ⟨_, rfl⟩
  rw [hln] at hS hc hn ⊢
  go_enter Tryz.func17, Tryz.ntmps17
  go_wp2_with fail
  go_loopw [2] (fun i wr => ∃ k : Nat, k ≤ n ∧ i = .int .i64 k ∧ Exc lo hi w wr ∧ Kind w wr) (fun i _ => n - (intOf i).toNat)
  case atStart => exact ⟨0, by omega, rfl, Exc.refl _ _ _, Kind.refl _⟩
  case round =>
    obtain ⟨k, hkn, rfl, hwr, hK⟩ := hrel
    by_cases hlt : k < n
    · obtain ⟨b, o, rfl, x0⟩ := b_get hS k hlt
      obtain ⟨y', y0, hyx⟩ := hK.only x0
      obtain ⟨hl1, hl2, hy, hf2, _⟩ := only_cell y0
      obtain ⟨y, rfl⟩ : ∃ y : UInt8, y' = .int .u8 y.toNat := by
        rcases hyx with rfl | ⟨_, y, _, rfl⟩
        · exact ⟨_, rfl⟩
        · exact ⟨y, rfl⟩
      clear x0 y0 hyx hS
      have hK2 := fun (z : UInt8) => hK.trans (Kind.set hy z)
      go_wp2_with (go_at_call 68; rw [show ((k : Int) + 7) = ((k + 7 : Nat) : Int) by omega]; (with_reducible refine (markB_any (k + 7) (by omega) _).mono ?_); rintro e w2 ⟨rfl, rfl⟩)
      go_roundw
      case rel => exact ⟨k + 1, by omega, by go_num, hwr.trans (Exc.setCell hl1 hl2 _), hK2 _⟩
      case measure => simp [intOf]; omega
    · obtain rfl : k = n := by omega
      go_wp2_with fail
      go_end0
      exact ⟨rfl, hwr, hK⟩
end Go.Proofs.YtgfhbachgniipaaGreatDoor

/-! What lays numbers, bytes and texts: the program's pack. -/
namespace Go.Proofs.YtgfhbachgniipaaGreatDoor
set_option linter.unusedVariables false
set_option linter.unusedSimpArgs false
open Go.RowKit
/-- Byte number k of a number, from the right. -/
def byteAt (v : Int) (k : Nat) : UInt8 := UInt8.ofNat (v / 2 ^ (8 * k) % 256).toNat
theorem byteAt_val (v : Int) (k : Nat) : ((byteAt v k).toNat : Int) = v / 2 ^ (8 * k) % 256 := by
  unfold byteAt
  generalize v / 2 ^ (8 * k) = x
  have h1 : 0 ≤ x % 256 := Int.emod_nonneg _ (by decide)
  have h2 : x % 256 < 256 := Int.emod_lt_of_pos _ (by decide)
  rw [UInt8.toNat_ofNat', Nat.mod_eq_of_lt (by omega), Int.toNat_of_nonneg h1]
def numA (v : Int) : Nat → Array Value
  | 0 => #[.int .u8 0, .int .u8 0, .int .u8 0, .int .u8 0, .int .u8 0, .int .u8 0, .int .u8 0, .int .u8 0]
  | k + 1 => (numA v k).setIfInBounds (7 - k) (.int .u8 (byteAt v k).toNat)
theorem numA_size (v : Int) : ∀ k, (numA v k).size = 8
  | 0 => rfl
  | k + 1 => by rw [numA, Array.size_setIfInBounds]; exact numA_size v k
def num8 (v : Int) : List UInt8 := [byteAt v 7, byteAt v 6, byteAt v 5, byteAt v 4, byteAt v 3, byteAt v 2, byteAt v 1, byteAt v 0]
theorem numA_8 (v : Int) : (numA v 8).toList = (num8 v).flatMap encB := by
  unfold num8
  simp only [numA, List.flatMap_cons, List.flatMap_nil, encB]
  generalize byteAt v 0 = a; generalize byteAt v 1 = b; generalize byteAt v 2 = c; generalize byteAt v 3 = d
  generalize byteAt v 4 = e; generalize byteAt v 5 = f; generalize byteAt v 6 = g; generalize byteAt v 7 = h
  rfl
set_option maxHeartbeats 1000000 in
set_option maxRecDepth 100000 in
theorem number_any (v : Int) (hv : -9223372036854775808 ≤ v ∧ v ≤ 9223372036854775807) (w : World) : Calls Tryz.prog 148 #[.int .i64 v] w fun e w' => ∃ u, e = .returned u ∧ w'.ownsRow w.heap.size 5 1 u 8 ((num8 v).flatMap encB) ∧ Ext w w' := by
  have hmk : ∀ w : World, (Instr.makeSlice 35 (.int .i64 8) (.int .i64 8)).run Tryz.prog w = .ok (.slice (some ⟨w.heap.size, 0, none⟩) 8 8) (w.alloc (.cells #[.int .u8 0, .int .u8 0, .int .u8 0, .int .u8 0, .int .u8 0, .int .u8 0, .int .u8 0, .int .u8 0] 5)) := fun _ => by kernel_rfl
  obtain ⟨W, hW, hE, -⟩ := box1 w #[.int .u8 0, .int .u8 0, .int .u8 0, .int .u8 0, .int .u8 0, .int .u8 0, .int .u8 0, .int .u8 0] 5
  have B1 : Blk W w.heap.size 5 (numA v 0) := by rw [hW]; exact Blk.new _ _ _
  go_enter Tryz.func148, Tryz.ntmps148
  go_wp2_with fail
  rw [← hW]
  clear hW hmk
  go_loopw [8] (fun i wr => ∃ k : Nat, k ≤ 8 ∧ i = .int .i64 k ∧ Blk wr w.heap.size 5 (numA v k) ∧ Ext w wr) (fun i _ => 8 - (intOf i).toNat)
  case atStart => exact ⟨0, by omega, rfl, B1, hE⟩
  case round =>
    clear hE B1
    obtain ⟨k, hkn, rfl, hB, hwr⟩ := hrel
    by_cases hlt : k < 8
    · have hz : 7 - k < (numA v k).size := by rw [numA_size]; omega
      have x0 := hB.cell (7 - k) (Array.getElem?_eq_getElem hz)
      have f0 := hB.frozen (7 - k)
      go_wp2_with fail
      go_roundw
      case rel => exact ⟨k + 1, by omega, by go_num, (by have h := hB.set_ (7 - k) (.int .u8 (v / 2 ^ (8 * k) % 256)); rw [numA, byteAt_val]; exact h), hwr.set (Nat.le_refl _) _⟩
      case measure => simp [intOf]; omega
    · obtain rfl : k = 8 := by omega
      go_wp2_with fail
      go_ret
      refine ⟨_, rfl, ⟨by simp [num8, encB], .inr ⟨_, 8, numA v 8, rfl, Nat.le_refl _, hB, Nat.le_refl _, by decide, numA_size v 8, ?_⟩⟩, hwr⟩
      rw [numA_8]; rfl
theorem wpList_make_own {P : Program} {t e : TypeId} {sz bytes : Nat} {w : World} {ops : Array Oper} {rest : List Oper} {o : Oper} {a : Act} {Q : Exit → Act → World → Prop} (hgd : o.guard = none) (E : Elt P t e sz bytes) (x y : Operand) (ho : o.op = .makeSlice t x y) (c : Nat) (hx : a.eval x = .int .i64 0) (hy : a.eval y = .int .i64 (c : Int)) (hb : bytes * c ≤ 281474976710656) (h63 : c ≤ maxLen)
    (h : ∀ w', w'.ownsRow w.heap.size e sz (.slice (some ⟨w.heap.size, 0, none⟩) 0 c) 0 [] → w.grownBy w' none → wpList P ops Q rest (a.put o.dst (.slice (some ⟨w.heap.size, 0, none⟩) 0 c)) w') : wpList P ops Q (o :: rest) a w :=
  wpList_plain hgd fun K hK => by
    obtain ⟨i, z, hi, hz, hsz, hby, hzc⟩ := E.hi
    obtain ⟨w', hr, hown, hg⟩ := run_make_own (P := P) w w.heap.size t e i z sz E.ht hi hz hsz .i64 .i64 c (by rw [hby]; exact hb) h63 (Nat.le_refl _)
    unfold Oper.wp execOp
    simp only [ho, hx, hy, Sem.run_bind, Sem.run_pure, Result.andThen_ok, hr]
    exact hK _ _ (h w' hown hg)
theorem grown_none {w w' : World} (h : w.grownBy w' none) : Ext w w' := ⟨h.os, h.tape, h.output, h.size, fun k hk => h.block k hk (by simp)⟩
theorem strCells_enc (s : ByteArray) : Lib.strCells s = s.data.toList.flatMap encB := by
  unfold Lib.strCells
  induction s.data.toList with
  | nil => rfl
  | cons x l ih => rw [List.map_cons, List.flatMap_cons, ih]; rfl
set_option maxHeartbeats 1000000 in
set_option maxRecDepth 100000 in
theorem laidB_any (w : World) (A : Option Addr) (c : Nat) (l : List UInt8) (hS : Rd.u8.Sl w A l.length l) (hc : l.length ≤ c) (hn : l.length ≤ 4294967296) (A' : Option Addr) (c' : Nat) (k : List UInt8) (hS' : Rd.u8.Sl w A' k.length k) (hc' : k.length ≤ c') (hn' : k.length ≤ 4294967296) :
    Calls Tryz.prog 119 #[.slice A l.length c, .slice A' k.length c'] w fun e w' => ∃ v, e = .returned v ∧ w'.ownsRow w.heap.size 5 1 v (l.length + k.length) ((l ++ k).flatMap encB) ∧ Ext w w' := by
  have hck := b_cells hS'
  have h1k := encB_one k
  rw [List.flatMap_append]
  obtain ⟨m, hkm⟩ : ∃ n, k.length = n := ⟨_, rfl⟩
  rw [hkm] at hck hc' hn' ⊢
  generalize k.flatMap encB = M at *
  clear hS' hkm
  obtain ⟨n, hln⟩ : ∃ n, l.length = n := ⟨_, rfl⟩
  have hcl := b_cells hS
  have h1 := encB_one l
  rw [hln] at hcl hc hn ⊢
  generalize l.flatMap encB = L at *
  clear hS hln
  go_enter Tryz.func119, Tryz.ntmps119
  go_wp2_with (first | (refine wpList_make_own rfl elt_bytes (.const (.int .i64 0)) (.tmp 11) rfl (n + m + 16) rfl (by go_num) (by omega) (by unfold maxLen; omega) ?_; intro w1 hown1 hg1; have hE1 := grown_none hg1; have hcl1 : Cells w1 A n 1 L := ⟨hcl.1, hcl.2.1, fun ad h j u hu => hE1.cellk (hcl.2.2 ad h j u hu)⟩) | (at_builtin; refine wpList_append_cells rfl elt_bytes (.tmp 13) (.tmp 14) rfl hown1 rfl rfl hcl1 h1 (by unfold maxLen; omega) (by omega) hE1.le ?_; intro v2 w2 hown2 hg2; have hE2 := grown_ext2 hE1 hown1 hg2 (Nat.le_refl _); have hck2 : Cells w2 A' m 1 M := ⟨hck.1, hck.2.1, fun ad h j u hu => hE2.cellk (hck.2.2 ad h j u hu)⟩; simp only [Nat.zero_add, List.nil_append] at hown2) | (at_builtin; refine wpList_append_cells rfl elt_bytes (.tmp 15) (.tmp 16) rfl hown2 rfl rfl hck2 h1k (by unfold maxLen; omega) (by omega) hE2.le ?_; intro v3 w3 hown3 hg3; have hE3 := grown_ext2 hE2 hown2 hg3 (Nat.le_refl _)))
  go_ret
  exact ⟨_, rfl, hown3, hE3⟩
set_option maxHeartbeats 1000000 in
set_option maxRecDepth 100000 in
theorem laidS_any (w : World) (A : Option Addr) (c : Nat) (l : List UInt8) (hS : Rd.u8.Sl w A l.length l) (hc : l.length ≤ c) (hn : l.length ≤ 4294967296) (s : ByteArray) (hs : s.size ≤ 4294967296) :
    Calls Tryz.prog 146 #[.slice A l.length c, .string s] w fun e w' => ∃ v, e = .returned v ∧ w'.ownsRow w.heap.size 5 1 v (l.length + s.size) ((l ++ s.data.toList).flatMap encB) ∧ Ext w w' := by
  obtain ⟨i0, hi, hz0, hz1, hz2⟩ := info_parts (show (Tryz.prog.info? 5).map (fun i => (i.zero, i.size, i.bytes)) = some (some (.int .u8 0), 1, 1) by kernel_rfl)
  rw [List.flatMap_append, ← strCells_enc]
  obtain ⟨n, hln⟩ : ∃ n, l.length = n := ⟨_, rfl⟩
  have hcl := b_cells hS
  have h1 := encB_one l
  rw [hln] at hcl hc hn ⊢
  generalize l.flatMap encB = L at *
  clear hS hln
  go_enter Tryz.func146, Tryz.ntmps146
  go_wp2_with (first | (refine wpList_make_own rfl elt_bytes (.const (.int .i64 0)) (.tmp 11) rfl (n + s.size + 16) rfl (by go_num) (by omega) (by unfold maxLen; omega) ?_; intro w1 hown1 hg1; have hE1 := grown_none hg1; have hcl1 : Cells w1 A n 1 L := ⟨hcl.1, hcl.2.1, fun ad h j u hu => hE1.cellk (hcl.2.2 ad h j u hu)⟩) | (at_builtin; refine wpList_append_cells rfl elt_bytes (.tmp 13) (.tmp 14) rfl hown1 rfl rfl hcl1 h1 (by unfold maxLen; omega) (by omega) hE1.le ?_; intro v2 w2 hown2 hg2; have hE2 := grown_ext2 hE1 hown1 hg2 (Nat.le_refl _); simp only [Nat.zero_add, List.nil_append] at hown2) | (at_builtin; refine Lib.wpList_append_own_string _ rfl (.tmp 15) (.tmp 16) 35 9 rfl w.heap.size 5 i0 Tryz.underlying35 Tryz.underlying9 hi hz0 hz1 hz2 _ _ _ rfl hown2 s rfl (by unfold maxLen; omega) (by omega) hE2.le ?_; intro v3 w3 hown3 hg3 _; have hE3 := grown_ext2 hE2 hown2 hg3 (Nat.le_refl _)))
  go_ret
  exact ⟨_, rfl, hown3, hE3⟩
theorem num8_len (v : Int) : (num8 v).length = 8 := rfl
set_option maxHeartbeats 1000000 in
set_option maxRecDepth 100000 in
theorem packInt_any (w : World) (A : Option Addr) (c : Nat) (l : List UInt8) (hS : Rd.u8.Sl w A l.length l) (hc : l.length ≤ c) (hn : l.length ≤ 4294967296) (v : Int) (hv : -9223372036854775808 ≤ v ∧ v ≤ 9223372036854775807) :
    Calls Tryz.prog 118 #[.slice A l.length c, .int .i64 v] w fun e w' => ∃ u, e = .returned u ∧ w'.ownsRow w.heap.size 5 1 u (l.length + 8) ((l ++ num8 v).flatMap encB) ∧ Ext w w' := by
  have hla := fun (w' : World) (h : Ext w w') => laidB_any w' A c l (hS.ext h) hc hn
  obtain ⟨n, hln⟩ : ∃ n, l.length = n := ⟨_, rfl⟩
  rw [hln] at hla ⊢
  clear hS
  go_enter Tryz.func118, Tryz.ntmps118
  go_wp2_with (first | (go_at_call 148; (with_reducible refine (number_any v hv _).mono ?_); rintro e w1 ⟨u1, rfl, hown1, hE1⟩; obtain ⟨A1, c1, hu1, h1c, -, h1S⟩ := own_bytes (lo := 0) (hi := w1.heap.size) (l := num8 v) (by rw [num8_len]; exact hown1) (Nat.zero_le _) (Nat.le_refl _); rw [num8_len] at hu1; subst hu1; have h2 := hla w1 hE1 A1 c1 (num8 v) (h1S.mono only_cle) h1c (by rw [num8_len]; decide); rw [num8_len] at h2; clear hla hown1 h1S) | (go_at_call 119; (with_reducible refine h2.mono ?_); rintro e w2 ⟨u2, rfl, hown2, hE2⟩))
  go_ret
  exact ⟨_, rfl, own_base hown2 hE1.le, hE1.trans hE2⟩
set_option maxHeartbeats 1000000 in
set_option maxRecDepth 100000 in
theorem packBlob_any (w : World) (A : Option Addr) (c : Nat) (l : List UInt8) (hS : Rd.u8.Sl w A l.length l) (hc : l.length ≤ c) (hn : l.length ≤ 1073741824) (A' : Option Addr) (c' : Nat) (k : List UInt8) (hS' : Rd.u8.Sl w A' k.length k) (hc' : k.length ≤ c') (hn' : k.length ≤ 4294967296) :
    Calls Tryz.prog 49 #[.slice A l.length c, .slice A' k.length c'] w fun e w' => ∃ u, e = .returned u ∧ w'.ownsRow w.heap.size 5 1 u (l.length + 8 + k.length) ((l ++ num8 k.length ++ k).flatMap encB) ∧ Ext w w' := by
  have h1 := packInt_any w A c l hS hc (by omega) k.length (by omega)
  have hla := fun (w' : World) (h : Ext w w') A1 c1 hS1 hc1 => laidB_any w' A1 c1 (l ++ num8 k.length) hS1 hc1 (by rw [List.length_append, num8_len]; omega) A' c' k (hS'.ext h) hc' hn'
  have hl : (l ++ num8 k.length).length = l.length + 8 := by rw [List.length_append, num8_len]
  rw [hl] at hla
  obtain ⟨m, hkm⟩ : ∃ n, k.length = n := ⟨_, rfl⟩
  obtain ⟨n, hln⟩ : ∃ n, l.length = n := ⟨_, rfl⟩
  rw [hln] at h1 hla hl ⊢
  rw [hkm] at h1 hla hl ⊢
  have HL := Lib.hid hl
  clear hS hS' hln hkm hl
  go_enter Tryz.func49, Tryz.ntmps49
  go_wp2_with (first | (go_at_call 118; (with_reducible refine h1.mono ?_); rintro e w1 ⟨u1, rfl, hown1, hE1⟩; obtain ⟨A1, c1, hu1, h1c, -, h1S⟩ := own_bytes (lo := 0) (hi := w1.heap.size) (l := l ++ num8 m) (by rw [HL.out]; exact hown1) (Nat.zero_le _) (Nat.le_refl _); rw [HL.out] at hu1 h1c h1S; subst hu1; have h2 := hla w1 hE1 A1 c1 (h1S.mono only_cle) h1c; clear hla hown1 h1S h1) | (go_at_call 119; (with_reducible refine h2.mono ?_); rintro e w2 ⟨u2, rfl, hown2, hE2⟩))
  go_ret
  exact ⟨_, rfl, own_base hown2 hE1.le, hE1.trans hE2⟩
set_option maxHeartbeats 1000000 in
set_option maxRecDepth 100000 in
theorem packText_any (w : World) (A : Option Addr) (c : Nat) (l : List UInt8) (hS : Rd.u8.Sl w A l.length l) (hc : l.length ≤ c) (hn : l.length ≤ 1073741824) (s : ByteArray) (hs : s.size ≤ 4294967296) :
    Calls Tryz.prog 115 #[.slice A l.length c, .string s] w fun e w' => ∃ u, e = .returned u ∧ w'.ownsRow w.heap.size 5 1 u (l.length + 8 + s.size) ((l ++ num8 s.size ++ s.data.toList).flatMap encB) ∧ Ext w w' := by
  have h1 := packInt_any w A c l hS hc (by omega) s.size (by omega)
  have hla := fun (w' : World) A1 c1 hS1 hc1 => laidS_any w' A1 c1 (l ++ num8 s.size) hS1 hc1 (by rw [List.length_append, num8_len]; omega) s hs
  have hl : (l ++ num8 s.size).length = l.length + 8 := by rw [List.length_append, num8_len]
  rw [hl] at hla
  obtain ⟨n, hln⟩ : ∃ n, l.length = n := ⟨_, rfl⟩
  rw [hln] at h1 hla hl ⊢
  have HL := Lib.hid hl
  clear hS hln hl
  go_enter Tryz.func115, Tryz.ntmps115
  go_wp2_with (first | (go_at_call 118; (with_reducible refine h1.mono ?_); rintro e w1 ⟨u1, rfl, hown1, hE1⟩; obtain ⟨A1, c1, hu1, h1c, -, h1S⟩ := own_bytes (lo := 0) (hi := w1.heap.size) (l := l ++ num8 s.size) (by rw [HL.out]; exact hown1) (Nat.zero_le _) (Nat.le_refl _); rw [HL.out] at hu1 h1c h1S; subst hu1; have h2 := hla w1 A1 c1 (h1S.mono only_cle) h1c; clear hla hown1 h1S h1) | (go_at_call 146; (with_reducible refine h2.mono ?_); rintro e w2 ⟨u2, rfl, hown2, hE2⟩))
  go_ret
  exact ⟨_, rfl, own_base hown2 hE1.le, hE1.trans hE2⟩
end Go.Proofs.YtgfhbachgniipaaGreatDoor

/-! What lays numbers, bytes and texts: the document's answer. -/
namespace Go.Proofs.YtgfhbachgniipaaGreatDoor
set_option linter.unusedVariables false
set_option linter.unusedSimpArgs false
open Go.RowKit
def idx : Nat → Int
  | 0 => -1
  | m + 1 => m
def uOf (v : Int) : Nat := (v % 18446744073709551616).toNat
theorem uOf_wrap (v : Int) : IntKind.u64.wrap v = (uOf v : Int) := by
  unfold uOf
  rw [IntKind.wrap_u64, Int.toNat_of_nonneg (Int.emod_nonneg _ (by decide))]
theorem uOf_lt (v : Int) : uOf v < 18446744073709551616 := by
  unfold uOf
  have h1 := Int.emod_nonneg v (show (18446744073709551616 : Int) ≠ 0 by decide)
  have h2 := Int.emod_lt_of_pos v (show (0 : Int) < 18446744073709551616 by decide)
  omega
theorem uOf_byte (v : Int) : ∀ m, m < 8 → (uOf v / 256 ^ m) % 256 = (byteAt v m).toNat := by
  intro m hm
  have h := byteAt_val v m
  have hu : (uOf v : Int) = v % 18446744073709551616 := by
    unfold uOf; rw [Int.toNat_of_nonneg (Int.emod_nonneg _ (by decide))]
  have key : ((uOf v / 256 ^ m % 256 : Nat) : Int) = ((byteAt v m).toNat : Int) := by
    rw [h, Int.natCast_emod, Int.natCast_ediv, hu]
    obtain rfl | rfl | rfl | rfl | rfl | rfl | rfl | rfl : m = 0 ∨ m = 1 ∨ m = 2 ∨ m = 3 ∨ m = 4 ∨ m = 5 ∨ m = 6 ∨ m = 7 := by omega
    all_goals (simp <;> omega)
  exact Int.natCast_inj.1 key
theorem num8_take (v : Int) (m : Nat) (hm : m < 8) : (num8 v).take (8 - m) = (num8 v).take (7 - m) ++ [byteAt v m] := by
  obtain rfl | rfl | rfl | rfl | rfl | rfl | rfl | rfl : m = 0 ∨ m = 1 ∨ m = 2 ∨ m = 3 ∨ m = 4 ∨ m = 5 ∨ m = 6 ∨ m = 7 := by omega
  all_goals rfl
set_option maxHeartbeats 1000000 in
set_option maxRecDepth 100000 in
theorem refInt_any (w : World) (A : Option Addr) (c : Nat) (l : List UInt8) (hS : Rd.u8.Sl w A l.length l) (hc : l.length ≤ c) (hn : l.length ≤ 4294967296) (v : Int) :
    Calls Tryz.prog 120 #[.slice A l.length c, .int .i64 v] w fun e w' => ∃ u, e = .returned u ∧ w'.ownsRow w.heap.size 5 1 u (l.length + 8) ((l ++ num8 v).flatMap encB) ∧ Ext w w' := by
  have hcp := copyBytes_any w A c l hS hc hn
  obtain ⟨n, hln⟩ : ∃ n, l.length = n := ⟨_, rfl⟩
  rw [hln] at hcp hc hn ⊢
  have hw := uOf_wrap v
  have hul := uOf_lt v
  obtain ⟨u, hu⟩ : ∃ u, uOf v = u := ⟨_, rfl⟩
  rw [hu] at hw hul
  clear hS
  go_enter Tryz.func120, Tryz.ntmps120
  go_wp2_with (go_at_call 35; (with_reducible refine hcp.mono ?_); rintro e w1 ⟨v1, rfl, hown1, hE1⟩)
  clear hcp hw
  go_loopw [5, 7] (fun s5 i wr => ∃ j : Nat, j ≤ 8 ∧ i = .int .i64 (idx j) ∧ wr.ownsRow w.heap.size 5 1 s5 (n + (8 - j)) ((l ++ (num8 v).take (8 - j)).flatMap encB) ∧ Ext w wr) (fun _ i _ => (intOf i + 1).toNat)
  case atStart => exact ⟨8, by omega, rfl, by simpa using hown1, hE1⟩
  case round =>
    clear hown1 hE1
    obtain ⟨j, hj, rfl, hown, hwr⟩ := hrel
    cases j with
    | zero =>
      simp only [idx]
      go_wp2_with fail
      go_ret
      exact ⟨_, rfl, by simpa [num8] using hown, hwr⟩
    | succ m =>
      have hm : m ≤ 7 := by omega
      have hb := uOf_byte v m (by omega)
      have ht := num8_take v m (by omega)
      rw [hu] at hb
      have HB := Lib.hid hb
      have HT := Lib.hid ht
      obtain ⟨wo, rfl⟩ : ∃ wo : World, wo = wr := ⟨_, rfl⟩
      clear hb ht
      simp only [idx]
      go_wp2_with fail
      go_loop [8, 9] (fun x s => ∃ q a : Nat, q ≤ m ∧ s = .int .i64 q ∧ a = u / 256 ^ q ∧ a < 18446744073709551616 ∧ x = .int .u64 a) (fun _ s => m - (intOf s).toNat)
      case atStart => exact ⟨0, u, by omega, rfl, by simp, hul, rfl⟩
      case round =>
        obtain ⟨q, a, hq, rfl, ha, hal, rfl⟩ := hrel
        by_cases hlt : q < m
        · have hs : a / 256 = u / 256 ^ (q + 1) := by rw [ha, Nat.pow_succ, Nat.div_div_eq_div_mul]
          have HS := Lib.hid hs
          clear hs ha hown
          go_wp2_with fail
          go_round
          case rel => exact ⟨q + 1, a / 256, by omega, by go_num, HS.out, by omega, by go_num⟩
          case measure => simp [intOf]; omega
        · obtain rfl : q = m := by omega
          have hb := HB.out
          rw [← ha] at hb
          have hbv : (a : Int) % 256 = ((byteAt v q).toNat : Int) := by omega
          have ht := HT.out
          generalize byteAt v q = y at *
          have HT := Lib.hid ht
          clear hb ha ht
          go_wp2_with (at_builtin; refine wpList_append_cells (news := [.int .u8 y.toNat]) rfl elt_bytes (.tmp 26) (.tmp 30) rfl (hown.alloc _) rfl rfl ?c0 ?c1 ?c2 ?c3 ?c4 ?_)
          case c0 => exact ⟨rfl, (fun h => by cases h), fun ad h j u hu => (by cases h; exact new_cells wo _ #[.int .u8 y.toNat] j u hu)⟩
          case c1 => first | rfl | (intro u hu; simp at hu; subst hu; rfl)
          case c2 => unfold maxLen; omega
          case c3 => omega
          case c4 => have := hwr.le; simp; omega
          intro v' w3 hown' hgrow
          have hE := grown_ext (hwr.alloc _) (hown.alloc _) hgrow
          have hown2 : w3.ownsRow w.heap.size 5 1 v' (n + (8 - q)) ((l ++ (num8 v).take (8 - q)).flatMap encB) := by
            rw [HT.out, ← List.append_assoc, List.flatMap_append, show n + (8 - q) = n + (8 - (q + 1)) + 1 by omega]
            simpa [encB, List.flatMap_append, show 8 - (q + 1) = 7 - q by omega] using hown'
          clear hown hgrow hown' hbv
          go_wp2_with fail
          go_roundw
          case rel => exact ⟨q, by omega, (by cases q <;> simp [idx] <;> omega), hown2, hE⟩
          case measure => cases q <;> simp [intOf, idx] <;> omega
set_option maxHeartbeats 1000000 in
set_option maxRecDepth 100000 in
theorem refBlob_any (w : World) (A : Option Addr) (c : Nat) (l : List UInt8) (hS : Rd.u8.Sl w A l.length l) (hc : l.length ≤ c) (hn : l.length ≤ 1073741824) (A' : Option Addr) (c' : Nat) (p : List UInt8) (hS' : Rd.u8.Sl w A' p.length p) (hc' : p.length ≤ c') (hn' : p.length ≤ 4294967296) :
    Calls Tryz.prog 53 #[.slice A l.length c, .slice A' p.length c'] w fun e w' => ∃ u, e = .returned u ∧ w'.ownsRow w.heap.size 5 1 u (l.length + 8 + p.length) ((l ++ num8 p.length ++ p).flatMap encB) ∧ Ext w w' := by
  have hi := refInt_any w A c l hS hc (by omega) p.length
  obtain ⟨n, hln⟩ : ∃ n, l.length = n := ⟨_, rfl⟩
  obtain ⟨m, hpm⟩ : ∃ n, p.length = n := ⟨_, rfl⟩
  rw [hln] at hi hc hn ⊢
  rw [hpm] at hi hc' hn' hS' ⊢
  generalize l ++ num8 m = L at *
  clear hS hln
  go_enter Tryz.func53, Tryz.ntmps53
  go_wp2_with (go_at_call 120; (with_reducible refine hi.mono ?_); rintro e w1 ⟨v1, rfl, hown1, hE1⟩)
  clear hi
  go_loopw [5, 6] (fun s5 i wr => ∃ k : Nat, k ≤ m ∧ i = .int .i64 k ∧ wr.ownsRow w.heap.size 5 1 s5 (n + 8 + k) ((L ++ p.take k).flatMap encB) ∧ Ext w wr) (fun _ i _ => m - (intOf i).toNat)
  case atStart => exact ⟨0, by omega, rfl, by simpa using hown1, hE1⟩
  case round =>
    clear hown1 hE1
    obtain ⟨k, hkn, rfl, hown, hwr⟩ := hrel
    by_cases hlt : k < m
    · obtain ⟨b, o, rfl, x0⟩ := b_get hS' k hlt
      have htk : (L ++ p.take (k + 1)).flatMap encB = (L ++ p.take k).flatMap encB ++ [.int .u8 (p[k]'(by omega)).toNat] := by
        rw [List.flatMap_append, b_one (by omega), List.flatMap_append, List.append_assoc]
      generalize hx : p[k]'(by omega) = x at *
      have x0 := hwr.cellk x0
      clear hx hS'
      generalize (L ++ p.take k).flatMap encB = M at *
      go_wp2_with (at_builtin; refine wpList_append_cells (news := [.int .u8 x.toNat]) rfl elt_bytes (.tmp 17) (.tmp 22) rfl (hown.alloc _) rfl rfl ?c0 ?c1 ?c2 ?c3 ?c4 ?_)
      case c0 => exact ⟨rfl, (fun h => by cases h), fun ad h j u hu => (by cases h; exact new_cells wr _ #[.int .u8 x.toNat] j u hu)⟩
      case c1 => first | rfl | (intro u hu; simp at hu; subst hu; rfl)
      case c2 => unfold maxLen; omega
      case c3 => omega
      case c4 => have := hwr.le; simp; omega
      intro v' w3 hown' hgrow
      have hE := grown_ext (hwr.alloc _) (hown.alloc _) hgrow
      rw [← htk] at hown'
      clear hown hgrow x0 htk
      go_wp2_with fail
      go_roundw
      case rel => exact ⟨k + 1, by omega, by go_num, hown', hE⟩
      case measure => simp [intOf]; omega
    · obtain rfl : k = m := by omega
      rw [← hpm, List.take_length] at hown
      rw [hpm] at hown
      go_wp2_with fail
      go_ret
      exact ⟨_, rfl, hown, hwr⟩
set_option maxHeartbeats 1000000 in
set_option maxRecDepth 100000 in
theorem refText_any (w : World) (A : Option Addr) (c : Nat) (l : List UInt8) (hS : Rd.u8.Sl w A l.length l) (hc : l.length ≤ c) (hn : l.length ≤ 1073741824) (s : ByteArray) (hs : s.size ≤ 4294967296) :
    Calls Tryz.prog 52 #[.slice A l.length c, .string s] w fun e w' => ∃ u, e = .returned u ∧ w'.ownsRow w.heap.size 5 1 u (l.length + 8 + s.size) ((l ++ num8 s.size ++ s.data.toList).flatMap encB) ∧ Ext w w' := by
  have hi := refInt_any w A c l hS hc (by omega) s.size
  obtain ⟨n, hln⟩ : ∃ n, l.length = n := ⟨_, rfl⟩
  rw [hln] at hi hc hn ⊢
  generalize l ++ num8 s.size = L at *
  clear hS hln
  go_enter Tryz.func52, Tryz.ntmps52
  go_wp2_with (go_at_call 120; (with_reducible refine hi.mono ?_); rintro e w1 ⟨v1, rfl, hown1, hE1⟩)
  clear hi
  go_loopw [5, 6] (fun s5 i wr => ∃ k : Nat, k ≤ s.size ∧ i = .int .i64 k ∧ wr.ownsRow w.heap.size 5 1 s5 (n + 8 + k) ((L ++ s.data.toList.take k).flatMap encB) ∧ Ext w wr) (fun _ i _ => s.size - (intOf i).toNat)
  case atStart => exact ⟨0, by omega, rfl, by simpa using hown1, hE1⟩
  case round =>
    clear hown1 hE1
    obtain ⟨k, hkn, rfl, hown, hwr⟩ := hrel
    by_cases hlt : k < s.size
    · have htk : (L ++ s.data.toList.take (k + 1)).flatMap encB = (L ++ s.data.toList.take k).flatMap encB ++ [.int .u8 s[k].toNat] := by
        have hk : k < s.data.toList.length := by simpa using hlt
        rw [List.flatMap_append, b_one hk, List.flatMap_append, List.append_assoc]
        rfl
      generalize hx : s[k] = x at *
      generalize (L ++ s.data.toList.take k).flatMap encB = M at *
      go_wp2_with (at_builtin; go_loud (refine wpList_append_cells (news := [.int .u8 x.toNat]) rfl elt_bytes (.tmp 17) (.tmp 21) rfl (hown.alloc _) rfl rfl ?c0 ?c1 ?c2 ?c3 ?c4 ?_))
      case c0 => exact ⟨rfl, (fun h => by cases h), fun ad h j u hu => (by cases h; exact new_cells wr _ #[.int .u8 x.toNat] j u hu)⟩
      case c1 => first | rfl | (intro u hu; simp at hu; subst hu; rfl)
      case c2 => unfold maxLen; omega
      case c3 => omega
      case c4 => have := hwr.le; simp; omega
      intro v' w3 hown' hgrow
      have hE := grown_ext (hwr.alloc _) (hown.alloc _) hgrow
      rw [← htk] at hown'
      clear hown hgrow htk hx
      go_wp2_with fail
      go_roundw
      case rel => exact ⟨k + 1, by omega, by go_num, hown', hE⟩
      case measure => simp [intOf]; omega
    · obtain rfl : k = s.size := by omega
      have e : s.data.toList.take s.size = s.data.toList := List.take_of_length_le (by simp)
      rw [e] at hown
      clear e
      go_wp2_with fail
      go_ret
      exact ⟨_, rfl, hown, hwr⟩
end Go.Proofs.YtgfhbachgniipaaGreatDoor

/-! Bytes of the call's own: numbers, texts, bytes laid behind them, by the program and by the document's answer. -/
namespace Go.Proofs.YtgfhbachgniipaaGreatDoor
set_option linter.unusedVariables false
set_option linter.unusedSimpArgs false
open Go.RowKit
def txtB (s : ByteArray) : List UInt8 := num8 s.size ++ s.data.toList
def numsB (l : List Int) : List UInt8 := l.flatMap num8
def blobsB (l : List (List UInt8)) : List UInt8 := l.flatMap fun x => num8 x.length ++ x
/-- Bytes of the call's own. -/
def OwnB (B : Nat) (w : World) (v : Value) (L : List UInt8) : Prop := w.ownsRow B 5 1 v L.length (L.flatMap encB)
theorem OwnB.sl {B : Nat} {w : World} {v : Value} {L : List UInt8} (h : OwnB B w v L) : ∃ A c, v = .slice A L.length c ∧ L.length ≤ c ∧ Rd.u8.Sl w A L.length L := by
  obtain ⟨A, c, hv, h1, _, h2⟩ := own_bytes (lo := 0) (hi := w.heap.size) h (Nat.zero_le _) (Nat.le_refl _)
  exact ⟨A, c, hv, h1, h2.mono only_cle⟩
theorem txtB_len (s : ByteArray) : (txtB s).length = 8 + s.size := by
  unfold txtB; rw [List.length_append, num8_len, Array.length_toList]; rfl
theorem numsB_one (l : List Int) (k : Nat) (h : k < l.length) : numsB (l.take (k + 1)) = numsB (l.take k) ++ num8 l[k] := by
  unfold numsB
  rw [List.take_succ_eq_append_getElem h, List.flatMap_append]
  simp
theorem numsB_len (l : List Int) : (numsB l).length = 8 * l.length := by
  unfold numsB
  induction l with
  | nil => rfl
  | cons x l ih => rw [List.flatMap_cons, List.length_append, ih, num8_len, List.length_cons]; omega
theorem blobsB_one (l : List (List UInt8)) (k : Nat) (h : k < l.length) : blobsB (l.take (k + 1)) = blobsB (l.take k) ++ (num8 l[k].length ++ l[k]) := by
  unfold blobsB
  rw [List.take_succ_eq_append_getElem h, List.flatMap_append]
  simp
theorem blobsB_len (l : List (List UInt8)) (h : ∀ x ∈ l, x.length ≤ 1048576) : ∀ k, (blobsB (l.take k)).length ≤ k * 1048584
  | 0 => by simp [blobsB]
  | k + 1 => by
    have ih := blobsB_len l h k
    by_cases hk : k < l.length
    · rw [blobsB_one l k hk, List.length_append, List.length_append, num8_len]
      have := h _ (List.getElem_mem hk)
      omega
    · rw [List.take_of_length_le (by omega)]
      rw [List.take_of_length_le (by omega)] at ih
      exact Nat.le_trans ih (Nat.mul_le_mul_right _ (Nat.le_succ k))
/-- Int behind bytes of the call's own. -/
theorem intO {B : Nat} {w : World} {v : Value} {L : List UInt8} (h : OwnB B w v L) (hB : B ≤ w.heap.size) (hL : L.length ≤ 4294967296) (x : Int) (hx : -9223372036854775808 ≤ x ∧ x ≤ 9223372036854775807) :
    Calls Tryz.prog 118 #[v, .int .i64 x] w fun e w' => ∃ u, e = .returned u ∧ OwnB B w' u (L ++ num8 x) ∧ Ext w w' := by
  obtain ⟨A, c, rfl, h1, h2⟩ := h.sl
  refine (packInt_any w A c L h2 h1 hL x hx).mono ?_
  rintro e w' ⟨u, rfl, hu, hE⟩
  refine ⟨u, rfl, ?_, hE⟩
  unfold OwnB
  rw [List.length_append, num8_len]
  exact own_base hu hB
theorem textO {B : Nat} {w : World} {v : Value} {L : List UInt8} (h : OwnB B w v L) (hB : B ≤ w.heap.size) (hL : L.length ≤ 1073741824) (s : ByteArray) (hs : s.size ≤ 4294967296) :
    Calls Tryz.prog 115 #[v, .string s] w fun e w' => ∃ u, e = .returned u ∧ OwnB B w' u (L ++ txtB s) ∧ Ext w w' := by
  obtain ⟨A, c, rfl, h1, h2⟩ := h.sl
  refine (packText_any w A c L h2 h1 hL s hs).mono ?_
  rintro e w' ⟨u, rfl, hu, hE⟩
  refine ⟨u, rfl, ?_, hE⟩
  unfold OwnB txtB
  have e1 : s.data.toList.length = s.size := by rw [Array.length_toList]; rfl
  rw [List.length_append, List.length_append, num8_len, e1, ← Nat.add_assoc, ← List.append_assoc]
  exact own_base hu hB
theorem blobO {B : Nat} {w : World} {v : Value} {L : List UInt8} (h : OwnB B w v L) (hB : B ≤ w.heap.size) (hL : L.length ≤ 1073741824) (A' : Option Addr) (c' : Nat) (p : List UInt8) (hS : Rd.u8.Sl w A' p.length p) (hc : p.length ≤ c') (hp : p.length ≤ 4294967296) :
    Calls Tryz.prog 49 #[v, .slice A' p.length c'] w fun e w' => ∃ u, e = .returned u ∧ OwnB B w' u (L ++ (num8 p.length ++ p)) ∧ Ext w w' := by
  obtain ⟨A, c, rfl, h1, h2⟩ := h.sl
  refine (packBlob_any w A c L h2 h1 hL A' c' p hS hc hp).mono ?_
  rintro e w' ⟨u, rfl, hu, hE⟩
  refine ⟨u, rfl, ?_, hE⟩
  unfold OwnB
  rw [List.length_append, List.length_append, num8_len, ← Nat.add_assoc, ← List.append_assoc]
  exact own_base hu hB
theorem OwnB.nil (B : Nat) (w : World) : OwnB B w (.slice none 0 0) [] := World.ownsRow_nil _ _ _ _
theorem OwnB.ext {B : Nat} {w w' : World} {v : Value} {L : List UInt8} (h : OwnB B w v L) (hE : Ext w w') : OwnB B w' v L := own_ext h hE
theorem arr4 (a b c d : Int) (k : Nat) (h : k < 4) : (#[.int .i64 a, .int .i64 b, .int .i64 c, .int .i64 d] : Array Value)[k]? = some (.int .i64 ([a, b, c, d][k]'h)) := by
  obtain rfl | rfl | rfl | rfl : k = 0 ∨ k = 1 ∨ k = 2 ∨ k = 3 := by omega
  all_goals rfl
/-- Bytes of the call's own, at most N of them. -/
def OwnN (B N : Nat) (w : World) (v : Value) (L : List UInt8) : Prop := OwnB B w v L ∧ L.length ≤ N ∧ B ≤ w.heap.size
theorem OwnN.nil (B : Nat) (w : World) (h : B ≤ w.heap.size) : OwnN B 0 w (.slice none 0 0) [] := ⟨OwnB.nil B w, Nat.le_refl _, h⟩
theorem OwnN.ext {B N : Nat} {w w' : World} {v : Value} {L : List UInt8} (h : OwnN B N w v L) (hE : Ext w w') : OwnN B N w' v L := ⟨h.1.ext hE, h.2.1, Nat.le_trans h.2.2 hE.le⟩
theorem OwnN.re {B N : Nat} {w : World} {v : Value} {L L' : List UInt8} (h : OwnN B N w v L) (e : L = L') : OwnN B N w v L' := e ▸ h
theorem rintN {B N : Nat} {w : World} {v : Value} {L : List UInt8} (h : OwnN B N w v L) (hN : N ≤ 1073741824) (x : Int) :
    Calls Tryz.prog 120 #[v, .int .i64 x] w fun e w' => ∃ u, e = .returned u ∧ OwnN B (N + 8) w' u (L ++ num8 x) ∧ Ext w w' := by
  obtain ⟨hO, hL, hB⟩ := h
  obtain ⟨A, c, rfl, h1, h2⟩ := hO.sl
  refine (refInt_any w A c L h2 h1 (by omega) x).mono ?_
  rintro e w' ⟨u, rfl, hu, hE⟩
  refine ⟨u, rfl, ⟨?_, by rw [List.length_append, num8_len]; omega, Nat.le_trans hB hE.le⟩, hE⟩
  unfold OwnB
  rw [List.length_append, num8_len]
  exact own_base hu hB
theorem rtextN {B N : Nat} {w : World} {v : Value} {L : List UInt8} (h : OwnN B N w v L) (hN : N ≤ 1073741824) (s : ByteArray) (hs : s.size ≤ 1048576) :
    Calls Tryz.prog 52 #[v, .string s] w fun e w' => ∃ u, e = .returned u ∧ OwnN B (N + 1048584) w' u (L ++ txtB s) ∧ Ext w w' := by
  obtain ⟨hO, hL, hB⟩ := h
  obtain ⟨A, c, rfl, h1, h2⟩ := hO.sl
  refine (refText_any w A c L h2 h1 (by omega) s (by omega)).mono ?_
  rintro e w' ⟨u, rfl, hu, hE⟩
  refine ⟨u, rfl, ⟨?_, by rw [List.length_append, txtB_len]; omega, Nat.le_trans hB hE.le⟩, hE⟩
  unfold OwnB txtB
  have e1 : s.data.toList.length = s.size := by rw [Array.length_toList]; rfl
  rw [List.length_append, List.length_append, num8_len, e1, ← Nat.add_assoc, ← List.append_assoc]
  exact own_base hu hB
theorem rblobO {B : Nat} {w : World} {v : Value} {L : List UInt8} (h : OwnB B w v L) (hB : B ≤ w.heap.size) (hL : L.length ≤ 1073741824) (A' : Option Addr) (c' : Nat) (p : List UInt8) (hS : Rd.u8.Sl w A' p.length p) (hc : p.length ≤ c') (hp : p.length ≤ 4294967296) :
    Calls Tryz.prog 53 #[v, .slice A' p.length c'] w fun e w' => ∃ u, e = .returned u ∧ OwnB B w' u (L ++ (num8 p.length ++ p)) ∧ Ext w w' := by
  obtain ⟨A, c, rfl, h1, h2⟩ := h.sl
  refine (refBlob_any w A c L h2 h1 hL A' c' p hS hc hp).mono ?_
  rintro e w' ⟨u, rfl, hu, hE⟩
  refine ⟨u, rfl, ?_, hE⟩
  unfold OwnB
  rw [List.length_append, List.length_append, num8_len, ← Nat.add_assoc, ← List.append_assoc]
  exact own_base hu hB
end Go.Proofs.YtgfhbachgniipaaGreatDoor

/-! Rows of bytes: held against one another, copied, written over, counted. -/
namespace Go.Proofs.YtgfhbachgniipaaGreatDoor
set_option linter.unusedVariables false
set_option linter.unusedSimpArgs false
open Go.RowKit
def rdB : Rd (List UInt8) := Rd.slice Rd.u8
def rdN : Rd (List (List UInt8)) := Rd.slice rdB
theorem elt_nested : Elt Tryz.prog 27 35 1 24 := Elt.mk' (z := .slice none 0 0) Tryz.underlying27 (by kernel_rfl) rfl (by decide)
theorem n_get {w : World} {A : Option Addr} {n : Nat} {l : List (List UInt8)} (h : rdB.Sl w A n l) (k : Nat) (hk : k < n) : ∃ b o A' c', A = some ⟨b, o, none⟩ ∧ w.cell? ⟨b, o + k, none⟩ = some (.slice A' (l[k]'(by rw [h.1]; exact hk)).length c') ∧ (l[k]'(by rw [h.1]; exact hk)).length ≤ c' ∧ Rd.u8.Sl w A' (l[k]'(by rw [h.1]; exact hk)).length (l[k]'(by rw [h.1]; exact hk)) := by
  obtain ⟨b, o, cs, e, ⟨A', c', hK, hl, hS⟩, hc⟩ := h.get k hk
  have h0 := hc 0 _ (by rw [hK]; rfl)
  refine ⟨b, o, A', c', e, ?_, hl, hS⟩
  simpa [rdB, Rd.slice] using h0
theorem own_nested {w : World} {lo hi base : Nat} {e : TypeId} {v : Value} {l : List (List UInt8)} {vs : List Value} (h : w.ownsRow base e 1 v l.length vs) (hb : lo ≤ base) (hh : w.heap.size ≤ hi) (he : ∀ i (h : i < l.length), ∃ u, vs[i]? = some u ∧ rdB.K (only w lo hi) l[i] [u]) : ∃ A c, v = .slice A l.length c ∧ l.length ≤ c ∧ rdB.Sl (only w lo hi) A l.length l := by
  obtain ⟨hl, ⟨rfl, hn⟩ | ⟨g, cap, cur, rfl, hbg, hc, hle, hm, hs, ht⟩⟩ := h
  · have hl0 : l = [] := List.eq_nil_of_length_eq_zero hn
    subst hl0
    exact ⟨none, 0, rfl, Nat.le_refl _, Rd.Sl.none _ _ none⟩
  · have hg : g < hi := Nat.lt_of_lt_of_le (Array.getElem?_eq_some_iff.1 hc).1 hh
    refine ⟨some ⟨g, 0, none⟩, cap, rfl, hle, rfl, fun _ => ⟨g, 0, rfl, fun i hi' => ?_⟩⟩
    obtain ⟨u, hu, hK⟩ := he i hi'
    refine ⟨[u], hK, fun j x hx => ?_⟩
    obtain ⟨rfl, rfl⟩ : j = 0 ∧ x = u := by
      cases j with
      | zero => simp at hx; exact ⟨rfl, hx.symm⟩
      | succ j => simp at hx
    rw [← ht, Nat.mul_one, List.getElem?_take_of_lt hi'] at hu
    refine cell_only hc (Nat.le_trans hb hbg) hg ?_
    simpa [rdB, Rd.slice] using hu
set_option maxHeartbeats 1000000 in
set_option maxRecDepth 100000 in
theorem sameNested_any (w : World) (A : Option Addr) (c : Nat) (l : List (List UInt8)) (hS : rdB.Sl w A l.length l) (hc : l.length ≤ c) (hn : l.length ≤ 9223372036854775807) (hx : ∀ x ∈ l, x.length ≤ 9223372036854775807) (A' : Option Addr) (c' : Nat) (m : List (List UInt8)) (hS' : rdB.Sl w A' m.length m) (hc' : m.length ≤ c') :
    Calls Tryz.prog 70 #[.slice A l.length c, .slice A' m.length c'] w fun e w' => e = .returned (.bool (l == m)) ∧ Ext w w' := by
  obtain ⟨v, hv⟩ : ∃ v, (l == m) = v := ⟨_, rfl⟩
  rw [hv]
  obtain ⟨n, hln⟩ : ∃ n, l.length = n := ⟨_, rfl⟩
  obtain ⟨n', hmn⟩ : ∃ n, m.length = n := ⟨_, rfl⟩
  rw [hln] at hS hc hn ⊢
  rw [hmn] at hS' hc' ⊢
  go_enter Tryz.func70, Tryz.ntmps70
  by_cases hlen : n = n'
  · subst hlen
    go_wp2_with fail
    go_loopw [5] (fun i wr => ∃ k : Nat, k ≤ n ∧ i = .int .i64 k ∧ l.take k = m.take k ∧ Ext w wr) (fun i _ => n - (intOf i).toNat)
    case atStart => exact ⟨0, by omega, rfl, rfl, Ext.refl _⟩
    case round =>
      obtain ⟨k, hkn, rfl, ht, hwr⟩ := hrel
      by_cases hlt : k < n
      · obtain ⟨b, o, A1, c1, rfl, x0, h1c, h1S⟩ := n_get hS k hlt
        obtain ⟨b', o', A2, c2, rfl, y0, h2c, h2S⟩ := n_get hS' k hlt
        have tk := take_eq_one (by omega) (by omega) ht
        have hxm := hx _ (List.getElem_mem (l := l) (n := k) (by omega))
        generalize hx : l[k]'(by omega) = x at *
        generalize hy : m[k]'(by omega) = y at *
        have r0 := fun (w' : World) (h : Ext wr w') => (hwr.trans h).cellk x0
        have r1 := fun (w' : World) (h : Ext wr w') => (hwr.trans h).cellk y0
        have hsb := fun (w' : World) (h : Ext wr w') => sameBytes_any w' A1 c1 x (h1S.ext (hwr.trans h)) h1c hxm A2 c2 y (h2S.ext (hwr.trans h)) h2c
        have hY : Ext wr wr := Ext.refl wr
        have hne : x ≠ y → v = false := fun h => by
          rw [← hv, beq_eq_false_iff_ne]
          rintro rfl
          exact h (hx.symm.trans hy)
        obtain ⟨nx, hnx⟩ : ∃ nx, x.length = nx := ⟨_, rfl⟩
        obtain ⟨ny, hny⟩ : ∃ nx, y.length = nx := ⟨_, rfl⟩
        rw [hnx] at r0 hsb
        rw [hny] at r1 hsb
        clear hS hS' hx hy x0 y0 h1S h2S hxm
        go_wp2_with fail
        by_cases hxy : x = y
        · subst hxy
          have tk := tk rfl
          simp only [beq_self_eq_true] at hsb
          clear hne ht
          refine st_start (fun _ w' => Ext wr w') (fun _ => false) (by kernel_rfl) (by kernel_rfl) (by (repeat (first | assumption | exact Ext.refl _ | refine Ext.drew ?_ | refine Ext.alloc ?_ _ | refine Ext.drewN ?_ _ | refine Ext.trans ?_ (by assumption)))) ?_
          iterate 8 (first | (refine st_off (a' := ?_) rfl (by rfl) rfl ?_ ?_; rotate_left 1; (· simp only [Act.put, List.setIfInBounds_toArray, List.set_cons_zero, List.set_cons_succ]; rfl)) | (refine st_y (v := ?_) (a' := ?_) rfl (by rfl) rfl (fun k w' hw' => ?_) ?_ ?_; rotate_left 2; (· go_simp; with_reducible rfl); (· simp only [Act.put, List.setIfInBounds_toArray, List.set_cons_zero, List.set_cons_succ]; rfl)))
          refine st_call (args := ?_) (v := .bool true) (a' := ?_) Tryz.func16 (by kernel_rfl) rfl (by rfl) rfl rfl rfl ?_ ?_ ?_ ?_
          rotate_left 2
          · simp only [List.map_toArray, List.map_cons, List.map_nil]; rfl
          · exact fun k w' hS => (hsb w' hS).mono fun e w'' h => ⟨h.1, Ext.trans hS h.2⟩
          · simp only [Act.put, List.setIfInBounds_toArray, List.set_cons_zero, List.set_cons_succ]; rfl
          iterate 1 (first | (refine st_off (a' := ?_) rfl (by rfl) rfl ?_ ?_; rotate_left 1; (· simp only [Act.put, List.setIfInBounds_toArray, List.set_cons_zero, List.set_cons_succ]; rfl)) | (refine st_y (v := ?_) (a' := ?_) rfl (by rfl) rfl (fun k w' hw' => ?_) ?_ ?_; rotate_left 2; (· go_simp; with_reducible rfl); (· simp only [Act.put, List.setIfInBounds_toArray, List.set_cons_zero, List.set_cons_succ]; rfl)))
          refine st_end ?_
          intro w1 hY1
          go_wp2_with fail
          go_roundw
          case rel => exact ⟨k + 1, by omega, by go_num, tk, hwr.trans hY1⟩
          case measure => simp [intOf]; omega
        · have hq : (x == y) = false := by rw [beq_eq_false_iff_ne]; exact hxy
          rw [hq] at hsb
          obtain rfl := hne hxy
          clear hne ht tk hq
          refine st_start (fun _ w' => Ext wr w') (fun _ => false) (by kernel_rfl) (by kernel_rfl) (by (repeat (first | assumption | exact Ext.refl _ | refine Ext.drew ?_ | refine Ext.alloc ?_ _ | refine Ext.drewN ?_ _ | refine Ext.trans ?_ (by assumption)))) ?_
          iterate 8 (first | (refine st_off (a' := ?_) rfl (by rfl) rfl ?_ ?_; rotate_left 1; (· simp only [Act.put, List.setIfInBounds_toArray, List.set_cons_zero, List.set_cons_succ]; rfl)) | (refine st_y (v := ?_) (a' := ?_) rfl (by rfl) rfl (fun k w' hw' => ?_) ?_ ?_; rotate_left 2; (· go_simp; with_reducible rfl); (· simp only [Act.put, List.setIfInBounds_toArray, List.set_cons_zero, List.set_cons_succ]; rfl)))
          refine st_call (args := ?_) (v := .bool false) (a' := ?_) Tryz.func16 (by kernel_rfl) rfl (by rfl) rfl rfl rfl ?_ ?_ ?_ ?_
          rotate_left 2
          · simp only [List.map_toArray, List.map_cons, List.map_nil]; rfl
          · exact fun k w' hS => (hsb w' hS).mono fun e w'' h => ⟨h.1, Ext.trans hS h.2⟩
          · simp only [Act.put, List.setIfInBounds_toArray, List.set_cons_zero, List.set_cons_succ]; rfl
          iterate 1 (first | (refine st_off (a' := ?_) rfl (by rfl) rfl ?_ ?_; rotate_left 1; (· simp only [Act.put, List.setIfInBounds_toArray, List.set_cons_zero, List.set_cons_succ]; rfl)) | (refine st_y (v := ?_) (a' := ?_) rfl (by rfl) rfl (fun k w' hw' => ?_) ?_ ?_; rotate_left 2; (· go_simp; with_reducible rfl); (· simp only [Act.put, List.setIfInBounds_toArray, List.set_cons_zero, List.set_cons_succ]; rfl)))
          refine st_end ?_
          intro w1 hY1
          go_wp2_with fail
          go_ret
          exact ⟨rfl, hwr.trans hY1⟩
      · obtain rfl : k = n := by omega
        have e : l = m := by rw [← List.take_length (l := l), ← List.take_length (l := m), hln, hmn]; exact ht
        go_wp2_with fail
        go_ret
        exact ⟨ret_bool (by rw [← hv, e]; simp), hwr⟩
  · have e : v = false := by
      rw [← hv, beq_eq_false_iff_ne]
      rintro rfl
      exact hlen (by rw [← hln, ← hmn])
    subst e
    go_wp2_with fail
    go_ret
    exact ⟨rfl, Ext.refl _⟩
theorem only_grow {w w' : World} {lo : Nat} (hE : Ext w w') : Cle (only w lo w.heap.size) (only w' lo w'.heap.size) := by
  rw [← only_ext (lo := lo) hE (Nat.le_refl _)]
  exact only_wide (Nat.le_refl _) hE.le
set_option maxHeartbeats 1000000 in
set_option maxRecDepth 100000 in
theorem copyNested_any (w : World) (A : Option Addr) (c : Nat) (l : List (List UInt8)) (hS : rdB.Sl w A l.length l) (hc : l.length ≤ c) (hn : l.length ≤ 4294967296) (hx : ∀ x ∈ l, x.length ≤ 4294967296) :
    Calls Tryz.prog 44 #[.slice A l.length c] w fun e w' => ∃ A' c', e = .returned (.slice A' l.length c') ∧ l.length ≤ c' ∧ rdB.Sl (only w' w.heap.size w'.heap.size) A' l.length l ∧ Ext w w' := by
  obtain ⟨n, hln⟩ : ∃ n, l.length = n := ⟨_, rfl⟩
  rw [hln] at hS hc hn ⊢
  go_enter Tryz.func44, Tryz.ntmps44
  go_wp2_with fail
  go_loopw [3, 4] (fun s3 i wr => ∃ (k : Nat) (vs : List Value), k ≤ n ∧ i = .int .i64 k ∧ wr.ownsRow w.heap.size 35 1 s3 k vs ∧ (∀ i (h : i < l.length), i < k → ∃ u, vs[i]? = some u ∧ wr.ownsRow w.heap.size 5 1 u l[i].length (l[i].flatMap encB)) ∧ Ext w wr) (fun _ i _ => n - (intOf i).toNat)
  case atStart => exact ⟨0, [], by omega, rfl, World.ownsRow_nil _ _ _ _, (fun i h hi => by omega), Ext.refl _⟩
  case round =>
    obtain ⟨k, vs, hkn, rfl, hown, hel, hwr⟩ := hrel
    by_cases hlt : k < n
    · obtain ⟨b, o, A1, c1, rfl, x0, h1c, h1S⟩ := n_get hS k hlt
      have hxm := hx _ (List.getElem_mem (l := l) (n := k) (by omega))
      generalize hx : l[k]'(by omega) = x at *
      have x0 := hwr.cellk x0
      have hcp := copyBytes_any wr A1 c1 x (h1S.ext hwr) h1c hxm
      obtain ⟨nx, hnx⟩ : ∃ nx, x.length = nx := ⟨_, rfl⟩
      rw [hnx] at x0 hcp
      have hel' := hel
      clear h1S hel
      go_wp2_with (first | (go_at_call 35; (with_reducible refine hcp.mono ?_); rintro e w1 ⟨v1, rfl, hown1, hE1⟩; have hown1 := own_base hown1 hwr.le; obtain ⟨A2, c2, hv1, -⟩ := own_bytes (lo := w.heap.size) (hi := w1.heap.size) (l := x) (by rw [hnx]; exact hown1) (Nat.le_refl _) (Nat.le_refl _); rw [hnx] at hv1; subst hv1; clear hcp; have hown0 := own_ext hown hE1) | (at_builtin; refine wpList_append_cells (news := [.slice A2 nx c2]) rfl elt_nested (.tmp 11) (.tmp 17) rfl (hown0.alloc _) rfl rfl ?c0 ?c1 ?c2 ?c3 ?c4 ?_))
      case c0 => exact ⟨rfl, (fun h => by cases h), fun ad h j u hu => (by cases h; exact new_cells w1 _ #[.slice A2 nx c2] j u hu)⟩
      case c1 => intro u hu; simp at hu; subst hu; rfl
      case c2 => unfold maxLen; omega
      case c3 => omega
      case c4 => have := hwr.le; have := hE1.le; simp; omega
      intro v' w3 hown' hgrow
      have hE := grown_ext2 ((hwr.trans hE1).alloc (.cells #[.slice A2 nx c2] 35)) (hown0.alloc _) hgrow (Nat.le_refl _)
      have hvl : vs.length = k := by have := hown0.1; omega
      have hkeep : ∀ (u : Value) (m : Nat) (cs : List Value), w1.ownsRow w.heap.size 5 1 u m cs → w3.ownsRow w.heap.size 5 1 u m cs := fun u m cs h =>
        (h.alloc _).kept hgrow (own_ne (h.alloc (.cells #[.slice A2 nx c2] 35)) (hown0.alloc _) (by decide))
      have hrel : ∀ i (h : i < l.length), i < k + 1 → ∃ u, (vs ++ [.slice A2 nx c2])[i]? = some u ∧ w3.ownsRow w.heap.size 5 1 u l[i].length (l[i].flatMap encB) := fun i h hi => by
        by_cases hik : i < k
        · obtain ⟨u, hu, hK⟩ := hel' i h hik
          exact ⟨u, by rw [List.getElem?_append_left (by omega)]; exact hu, hkeep _ _ _ (own_ext hK hE1)⟩
        · obtain rfl : i = k := by omega
          refine ⟨_, by rw [List.getElem?_append_right (by omega), hvl, Nat.sub_self]; rfl, ?_⟩
          rw [hx, hnx]
          exact hkeep _ _ _ hown1
      clear hown hgrow x0 hown0 hkeep hel' hown1
      go_wp2_with fail
      go_roundw
      case rel => exact ⟨k + 1, _, by omega, by go_num, hown', hrel, hE⟩
      case measure => simp [intOf]; omega
    · obtain rfl : k = n := by omega
      obtain ⟨A', c', hv', hc', hS'⟩ := own_nested (lo := w.heap.size) (hi := wr.heap.size) (l := l) (by rw [hln]; exact hown) (Nat.le_refl _) (Nat.le_refl _) (fun i h => by
        obtain ⟨u, a, b⟩ := hel i h (by omega)
        obtain ⟨A3, c3, rfl, b1, _, b2⟩ := own_bytes b (Nat.le_refl _) (Nat.le_refl _)
        exact ⟨_, a, A3, c3, rfl, b1, b2⟩)
      rw [hln] at hv' hc' hS'
      subst hv'
      clear hown hel
      go_wp2_with fail
      go_ret
      exact ⟨_, _, rfl, hc', hS', hwr⟩
end Go.Proofs.YtgfhbachgniipaaGreatDoor

/-! Rows of bytes: written over, counted. -/
namespace Go.Proofs.YtgfhbachgniipaaGreatDoor
set_option linter.unusedVariables false
set_option linter.unusedSimpArgs false
open Go.RowKit
/-- n cells from A on lie in the blocks from lo on, below hi, and may be written. -/
def RowAt (w : World) (lo hi : Nat) (A : Option Addr) (n : Nat) : Prop := ∀ k, k < n → ∃ b o v, A = some ⟨b, o, none⟩ ∧ (only w lo hi).cell? ⟨b, o + k, none⟩ = some v
def There (lo hi : Nat) (w w' : World) : Prop := ∀ p v, (only w lo hi).cell? p = some v → ∃ v', (only w' lo hi).cell? p = some v'
theorem There.refl (lo hi : Nat) (w : World) : There lo hi w w := fun p v h => ⟨v, h⟩
theorem There.trans {lo hi : Nat} {a b c : World} (h : There lo hi a b) (k : There lo hi b c) : There lo hi a c := fun p v hv => by
  obtain ⟨v1, h1⟩ := h p v hv
  exact k p v1 h1
theorem There.ext {lo hi : Nat} {w w' : World} (h : Ext w w') (hh : hi ≤ w.heap.size) : There lo hi w w' := fun p v hv => ⟨v, by rw [only_ext h hh]; exact hv⟩
theorem There.set {lo hi : Nat} {w : World} (q : Addr) (u : Value) : There lo hi w (w.setCell q u) := fun p v hv => by
  have hs := only_spot hv
  obtain ⟨a, b, hc, _, cs, t, hh⟩ := only_cell hv
  obtain ⟨pb, po, ps⟩ := p
  obtain rfl : ps = none := hs
  unfold World.cell? at hc
  rw [hh] at hc
  simp only [Option.isSome_none, Bool.false_eq_true, if_false] at hc
  by_cases e : q.block = pb
  · have hlt := (Array.getElem?_eq_some_iff.1 hc).1
    have hb : (w.setCell q u).heap[pb]? = some (.cells (if q.spot.isSome then cs else cs.setIfInBounds q.off u) t (0, 0)) := by
      simp only [World.setCell, Array.getElem?_modify]
      rw [if_pos e]
      simp only at hh
      rw [hh]
      rfl
    have hz : po < (if q.spot.isSome then cs else cs.setIfInBounds q.off u).size := by split <;> simpa using hlt
    exact ⟨_, cell_only hb a b (Array.getElem?_eq_getElem hz)⟩
  · have hb : (w.setCell q u).heap[pb]? = some (.cells cs t (0, 0)) := by
      simp only [World.setCell, Array.getElem?_modify]
      rw [if_neg e]
      exact hh
    exact ⟨v, cell_only hb a b hc⟩
theorem Kind.there {lo hi : Nat} {w w' : World} (k : Kind w w') : There lo hi w w' := fun p v hv => by
  obtain ⟨v', h, _⟩ := k.only hv
  exact ⟨v', h⟩
theorem RowAt.there {lo hi : Nat} {w w' : World} {A : Option Addr} {n : Nat} (h : RowAt w lo hi A n) (k : There lo hi w w') : RowAt w' lo hi A n := fun i hi => by
  obtain ⟨b, o, v, e, hv⟩ := h i hi
  obtain ⟨v', hv'⟩ := k _ _ hv
  exact ⟨b, o, v', e, hv'⟩
theorem rowAt_nested {w : World} {lo hi : Nat} {A : Option Addr} {n : Nat} {l : List (List UInt8)} (h : rdB.Sl (only w lo hi) A n l) : RowAt w lo hi A n := fun k hk => by
  obtain ⟨b, o, A', c', e, hv, _⟩ := n_get h k hk
  exact ⟨b, o, _, e, hv⟩
set_option maxHeartbeats 1000000 in
set_option maxRecDepth 100000 in
theorem markN_any (k : Nat) (hk : k ≤ 8589934592) (w : World) : Calls Tryz.prog 143 #[.int .i64 k] w fun e w' => ∃ g, e = .returned (.slice (some ⟨g, 0, none⟩) 1 1) ∧ Ext w w' := by
  go_enter Tryz.func143, Tryz.ntmps143
  go_wp2_with fail
  go_ret
  exact ⟨_, rfl, (Ext.refl w).alloc _⟩
set_option maxHeartbeats 1000000 in
set_option maxRecDepth 100000 in
theorem spoilNested_any (w : World) (lo hi : Nat) (hh : hi ≤ w.heap.size) (A : Option Addr) (n c : Nat) (hS : RowAt w lo hi A n) (hc : n ≤ c) (hn : n ≤ 4294967296) :
    Calls Tryz.prog 110 #[.slice A n c] w fun e w' => e = .returned (.tuple #[]) ∧ Exc lo hi w w' := by
  go_enter Tryz.func110, Tryz.ntmps110
  go_wp2_with fail
  go_loopw [2] (fun i wr => ∃ k : Nat, k ≤ n ∧ i = .int .i64 k ∧ Exc lo hi w wr ∧ There lo hi w wr) (fun i _ => n - (intOf i).toNat)
  case atStart => exact ⟨0, by omega, rfl, Exc.refl _ _ _, There.refl _ _ _⟩
  case round =>
    obtain ⟨k, hkn, rfl, hwr, hT⟩ := hrel
    by_cases hlt : k < n
    · obtain ⟨b, o, y, rfl, x0⟩ := hS k hlt
      have hhr : hi ≤ wr.heap.size := Nat.le_trans hh hwr.size
      clear hS
      go_wp2_with (go_at_call 143; rw [show ((k : Int) + 7) = ((k + 7 : Nat) : Int) by omega]; (with_reducible refine (markN_any (k + 7) (by omega) _).mono ?_); rintro e w2 ⟨g2, rfl, hE⟩; obtain ⟨y2, z0⟩ := (hT.trans (There.ext hE hhr)) _ _ x0; obtain ⟨hl1, hl2, hy, hf2, -⟩ := only_cell z0; clear z0)
      go_roundw
      case rel => exact ⟨k + 1, by omega, by go_num, (hwr.trans (Ext.exc hE)).trans (Exc.setCell hl1 hl2 _), (hT.trans (There.ext hE hhr)).trans (There.set _ _)⟩
      case measure => simp [intOf]; omega
    · obtain rfl : k = n := by omega
      go_wp2_with fail
      go_end0
      exact ⟨rfl, hwr⟩
def allN : List (List UInt8) → Nat → Nat
  | [], n => n
  | x :: l, n => allN l (min (n + x.length + 1) 1099511627776)
theorem allN_le : ∀ (l : List (List UInt8)) (n : Nat), n ≤ 1099511627776 → allN l n ≤ 1099511627776
  | [], n, h => h
  | x :: l, n, h => allN_le l _ (Nat.min_le_right _ _)
theorem allN_ge : ∀ (l : List (List UInt8)) (n : Nat), n ≤ 1099511627776 → n ≤ allN l n
  | [], n, h => Nat.le_refl _
  | x :: l, n, h => Nat.le_trans (by omega : n ≤ min (n + x.length + 1) 1099511627776) (allN_ge l _ (Nat.min_le_right _ _))
theorem allN_mem : ∀ (l : List (List UInt8)) (n : Nat), n ≤ 1099511627776 → allN l n < 1099511627776 → ∀ x ∈ l, n + x.length < allN l n
  | y :: l, n, h, hb, x, hx => by
    have h1 := allN_ge l (min (n + y.length + 1) 1099511627776) (Nat.min_le_right _ _)
    have e : allN (y :: l) n = allN l (min (n + y.length + 1) 1099511627776) := rfl
    rcases List.mem_cons.1 hx with rfl | hx
    · rw [e] at hb ⊢; omega
    · have := allN_mem l (min (n + y.length + 1) 1099511627776) (Nat.min_le_right _ _) hb x hx
      rw [e] at hb ⊢; omega
theorem allN_take (l : List (List UInt8)) : ∀ (k : Nat) (n : Nat) (h : k < l.length), allN (l.take (k + 1)) n = min (allN (l.take k) n + l[k].length + 1) 1099511627776 := by
  induction l with
  | nil => intro k n h; simp at h
  | cons x l ih =>
    intro k n h
    cases k with
    | zero => rfl
    | succ k => exact ih k _ (by simpa using h)
set_option maxHeartbeats 1000000 in
set_option maxRecDepth 100000 in
theorem all_any (w : World) (A : Option Addr) (c : Nat) (l : List (List UInt8)) (hS : rdB.Sl w A l.length l) (hc : l.length ≤ c) (hn : l.length ≤ 9223372036854775807) (hx : ∀ x ∈ l, x.length ≤ 1000000000000000000) :
    Calls Tryz.prog 113 #[.slice A l.length c] w fun e w' => e = .returned (.int .i64 (allN l 0)) ∧ Ext w w' := by
  obtain ⟨n, hln⟩ : ∃ n, l.length = n := ⟨_, rfl⟩
  rw [hln] at hS hc hn ⊢
  go_enter Tryz.func113, Tryz.ntmps113
  go_wp2_with fail
  go_loopw [3, 4] (fun s i wr => ∃ k m : Nat, k ≤ n ∧ i = .int .i64 k ∧ m = allN (l.take k) 0 ∧ s = .int .i64 m ∧ Ext w wr) (fun _ i _ => n - (intOf i).toNat)
  case atStart => exact ⟨0, 0, by omega, rfl, rfl, rfl, Ext.refl _⟩
  case round =>
    obtain ⟨k, m, hkn, rfl, hm, rfl, hwr⟩ := hrel
    by_cases hlt : k < n
    · obtain ⟨b, o, A1, c1, rfl, x0, h1c, h1S⟩ := n_get hS k hlt
      have hxm := hx _ (List.getElem_mem (l := l) (n := k) (by omega))
      have htk := allN_take l k 0 (by omega)
      have hml := allN_le (l.take k) 0 (by omega)
      rw [← hm] at htk hml
      generalize hx : l[k]'(by omega) = x at *
      obtain ⟨nx, hnx⟩ : ∃ nx, x.length = nx := ⟨_, rfl⟩
      rw [hnx] at x0 htk hxm
      have x0 := hwr.cellk x0
      have HT := Lib.hid htk
      clear hS h1S hx hm htk h1c
      go_wp2_with fail
      all_goals
        go_roundw
        case rel =>
          refine ⟨k + 1, _, by omega, by go_num, HT.out.symm, ?_, hwr⟩
          congr 1
          omega
        case measure => simp [intOf]; omega
    · obtain rfl : k = n := by omega
      rw [← hln, List.take_length] at hm
      go_wp2_with fail
      go_ret
      exact ⟨ret_int (by rw [hm]), hwr⟩
end Go.Proofs.YtgfhbachgniipaaGreatDoor
