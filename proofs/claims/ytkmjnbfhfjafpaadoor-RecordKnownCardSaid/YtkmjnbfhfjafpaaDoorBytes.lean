/- Bytes: held against one another, copied, lent, kept, written over. -/
import Derived.Test.YtkmjnbfhfjafpaaDoorAppend
import Derived.Test.YtkmjnbfhfjafpaaDoorStable
import Derived.Test.YtkmjnbfhfjafpaaDoorOnly
namespace Go.Proofs.YtkmjnbfhfjafpaaDoor
set_option linter.unusedVariables false
set_option linter.unusedSimpArgs false
open Go.RowKit
def encB (b : UInt8) : List Value := [.int .u8 b.toNat]
theorem encB_len (x : UInt8) : (encB x).length = Rd.u8.sz := rfl
theorem encB_K (w : World) (x : UInt8) : Rd.u8.K w x (encB x) := rfl
theorem encB_one (l : List UInt8) : ∀ u ∈ l.flatMap encB, u.oneCell' = true := by
  intro u hu
  obtain ⟨x, _, hx⟩ := List.mem_flatMap.1 hu
  simp [encB] at hx
  subst hx; rfl
theorem elt_bytes : Elt Tryd.prog 29 5 1 1 := Elt.mk' (z := .int .u8 0) Tryd.underlying29 (by kernel_rfl) rfl (by decide)
theorem b_get {w : World} {A : Option Addr} {n : Nat} {l : List UInt8} (h : Rd.u8.Sl w A n l) (k : Nat) (hk : k < n) : ∃ b o, A = some ⟨b, o, none⟩ ∧ w.cell? ⟨b, o + k, none⟩ = some (.int .u8 (l[k]'(by rw [h.1]; exact hk)).toNat) := by
  obtain ⟨b, o, cs, e, hK, hc⟩ := h.get k hk
  have h0 := hc 0 _ (by rw [show cs = [_] from hK]; rfl)
  refine ⟨b, o, e, ?_⟩
  simpa [Rd.u8] using h0
theorem b_cells {w : World} {A : Option Addr} {n : Nat} {l : List UInt8} (h : Rd.u8.Sl w A n l) : Cells w A n 1 (l.flatMap encB) := sl_cellsOf (fun _ _ _ h => h) (fun _ => rfl) h
theorem b_one {l : List UInt8} {k : Nat} (h : k < l.length) : (l.take (k + 1)).flatMap encB = (l.take k).flatMap encB ++ [.int .u8 l[k].toNat] := by
  rw [List.take_succ_eq_append_getElem h, List.flatMap_append]
  rfl
theorem u8_ne {x y : UInt8} (h : x ≠ y) : (((x.toNat : Int)) == ((y.toNat : Int))) = false := by
  rw [beq_eq_false_iff_ne]
  intro e
  exact h (UInt8.toNat_inj.1 (by omega))
theorem take_eq_one {α : Type} {l m : List α} {k : Nat} (hl : k < l.length) (hm : k < m.length) (h : l.take k = m.take k) (e : l[k] = m[k]) : l.take (k + 1) = m.take (k + 1) := by
  rw [List.take_succ_eq_append_getElem hl, List.take_succ_eq_append_getElem hm, h, e]
theorem own_bytes {w : World} {lo hi base : Nat} {e : TypeId} {v : Value} {l : List UInt8} (h : w.ownsRow base e 1 v l.length (l.flatMap encB)) (hb : lo ≤ base) (hh : w.heap.size ≤ hi) : ∃ A c, v = .slice A l.length c ∧ l.length ≤ c ∧ c ≤ maxLen ∧ Rd.u8.Sl (only w lo hi) A l.length l :=
  own_only (d := Rd.u8) encB_len encB_K h hb hh
set_option maxHeartbeats 1000000 in
set_option maxRecDepth 100000 in
theorem sameBytes_any (w : World) (A : Option Addr) (c : Nat) (l : List UInt8) (hS : Rd.u8.Sl w A l.length l) (hc : l.length ≤ c) (hn : l.length ≤ 9223372036854775807) (A' : Option Addr) (c' : Nat) (m : List UInt8) (hS' : Rd.u8.Sl w A' m.length m) (hc' : m.length ≤ c') :
    Calls Tryd.prog 16 #[.slice A l.length c, .slice A' m.length c'] w fun e w' => e = .returned (.bool (l == m)) ∧ Ext w w' := by
  obtain ⟨v, hv⟩ : ∃ v, (l == m) = v := ⟨_, rfl⟩
  rw [hv]
  obtain ⟨n, hln⟩ : ∃ n, l.length = n := ⟨_, rfl⟩
  obtain ⟨n', hmn⟩ : ∃ n, m.length = n := ⟨_, rfl⟩
  rw [hln] at hS hc hn ⊢
  rw [hmn] at hS' hc' ⊢
  go_enter Tryd.func16, Tryd.ntmps16
  by_cases hlen : n = n'
  · subst hlen
    go_wp2_with fail
    go_loopw [5] (fun i wr => ∃ k : Nat, k ≤ n ∧ i = .int .i64 k ∧ l.take k = m.take k ∧ Ext w wr) (fun i _ => n - (intOf i).toNat)
    case atStart => exact ⟨0, by omega, rfl, rfl, Ext.refl _⟩
    case round =>
      obtain ⟨k, hkn, rfl, ht, hwr⟩ := hrel
      by_cases hlt : k < n
      · obtain ⟨b, o, rfl, x0⟩ := b_get hS k hlt
        obtain ⟨b', o', rfl, y0⟩ := b_get hS' k hlt
        have tk := take_eq_one (by omega) (by omega) ht
        generalize hx : l[k]'(by omega) = x at *
        generalize hy : m[k]'(by omega) = y at *
        have r0 := fun (w' : World) (h : Ext wr w') => (hwr.trans h).cellk x0
        have r1 := fun (w' : World) (h : Ext wr w') => (hwr.trans h).cellk y0
        have hY : Ext wr wr := Ext.refl wr
        have hne : x ≠ y → v = false := fun h => by
          rw [← hv, beq_eq_false_iff_ne]
          rintro rfl
          exact h (hx.symm.trans hy)
        clear hS hS' hx hy x0 y0
        go_wp2_with fail
        by_cases hxy : x = y
        · subst hxy
          have tk := tk rfl
          clear hne ht
          refine st_start (fun _ w' => Ext wr w') (fun _ => false) (by kernel_rfl) (by kernel_rfl) (by (repeat (first | assumption | exact Ext.refl _ | refine Ext.drew ?_ | refine Ext.alloc ?_ _ | refine Ext.drewN ?_ _ | refine Ext.trans ?_ (by assumption)))) ?_
          iterate 10 (first | (refine st_off (a' := ?_) rfl (by rfl) rfl ?_ ?_; rotate_left 1; (· simp only [Act.put, List.setIfInBounds_toArray, List.set_cons_zero, List.set_cons_succ]; rfl)) | (refine st_y (v := ?_) (a' := ?_) rfl (by rfl) rfl (fun k w' hw' => ?_) ?_ ?_; rotate_left 2; (· go_simp; with_reducible rfl); (· simp only [Act.put, List.setIfInBounds_toArray, List.set_cons_zero, List.set_cons_succ]; rfl)))
          refine st_end ?_
          intro w1 hY1
          go_wp2_with fail
          go_roundw
          case rel => exact ⟨k + 1, by omega, by go_num, tk, hwr.trans hY1⟩
          case measure => simp [intOf]; omega
        · have hq := u8_ne hxy
          obtain rfl := hne hxy
          clear hne ht tk
          refine st_start (fun _ w' => Ext wr w') (fun _ => false) (by kernel_rfl) (by kernel_rfl) (by (repeat (first | assumption | exact Ext.refl _ | refine Ext.drew ?_ | refine Ext.alloc ?_ _ | refine Ext.drewN ?_ _ | refine Ext.trans ?_ (by assumption)))) ?_
          iterate 10 (first | (refine st_off (a' := ?_) rfl (by rfl) rfl ?_ ?_; rotate_left 1; (· simp only [Act.put, List.setIfInBounds_toArray, List.set_cons_zero, List.set_cons_succ]; rfl)) | (refine st_y (v := ?_) (a' := ?_) rfl (by rfl) rfl (fun k w' hw' => ?_) ?_ ?_; rotate_left 2; (· go_simp; with_reducible rfl); (· simp only [Act.put, List.setIfInBounds_toArray, List.set_cons_zero, List.set_cons_succ]; rfl)))
          refine st_end ?_
          intro w1 hY1
          go_wp2_with fail
          go_ret
          exact ⟨rfl, hwr.trans hY1⟩
      · obtain rfl : k = n := by omega
        have e : l = m := by rw [← List.take_length (l := l), ← List.take_length (l := m), hln, hmn]; exact ht
        go_wp2_with fail
        go_ret
        exact ⟨ret_bool (by rw [← hv, e]; simp), hwr⟩
  · have e : v = false := by
      rw [← hv, beq_eq_false_iff_ne]
      rintro rfl
      exact hlen (by rw [← hln, ← hmn])
    subst e
    go_wp2_with fail
    go_ret
    exact ⟨rfl, Ext.refl _⟩
set_option maxHeartbeats 1000000 in
set_option maxRecDepth 100000 in
theorem copyBytes_any (w : World) (A : Option Addr) (c : Nat) (l : List UInt8) (hS : Rd.u8.Sl w A l.length l) (hc : l.length ≤ c) (hn : l.length ≤ 4294967296) :
    Calls Tryd.prog 25 #[.slice A l.length c] w fun e w' => ∃ v, e = .returned v ∧ w'.ownsRow w.heap.size 5 1 v l.length (l.flatMap encB) ∧ Ext w w' := by
  obtain ⟨n, hln⟩ : ∃ n, l.length = n := ⟨_, rfl⟩
  rw [hln] at hS hc hn ⊢
  go_enter Tryd.func25, Tryd.ntmps25
  go_wp2_with fail
  go_loopw [3, 4] (fun s3 i wr => ∃ k : Nat, k ≤ n ∧ i = .int .i64 k ∧ wr.ownsRow w.heap.size 5 1 s3 k ((l.take k).flatMap encB) ∧ Ext w wr) (fun _ i _ => n - (intOf i).toNat)
  case atStart => exact ⟨0, by omega, rfl, World.ownsRow_nil _ _ _ _, Ext.refl _⟩
  case round =>
    obtain ⟨k, hkn, rfl, hown, hwr⟩ := hrel
    by_cases hlt : k < n
    · obtain ⟨b, o, rfl, x0⟩ := b_get hS k hlt
      have htk := b_one (l := l) (k := k) (by omega)
      generalize hx : l[k]'(by omega) = x at *
      have x0 := hwr.cellk x0
      clear hx hS
      go_wp2_with (at_builtin; refine wpList_append_cells (news := [.int .u8 x.toNat]) rfl elt_bytes (.tmp 11) (.tmp 16) rfl (hown.alloc _) rfl rfl ?c0 ?c1 ?c2 ?c3 ?c4 ?_)
      case c0 => exact ⟨rfl, (fun h => by cases h), fun ad h j u hu => (by cases h; exact new_cells wr _ #[.int .u8 x.toNat] j u hu)⟩
      case c1 => intro u hu; simp at hu; subst hu; rfl
      case c2 => unfold maxLen; omega
      case c3 => omega
      case c4 => have := hwr.le; simp; omega
      intro v' w1 hown' hgrow
      have hE := grown_ext (hwr.alloc _) (hown.alloc _) hgrow
      rw [← htk] at hown'
      clear hown hgrow x0 htk
      go_wp2_with fail
      go_roundw
      case rel => exact ⟨k + 1, by omega, by go_num, hown', hE⟩
      case measure => simp [intOf]; omega
    · obtain rfl : k = n := by omega
      rw [← hln, List.take_length] at hown
      rw [hln] at hown
      go_wp2_with fail
      go_ret
      exact ⟨_, rfl, hown, hwr⟩
end Go.Proofs.YtkmjnbfhfjafpaaDoor
