/- Rows of bytes: held against one another, copied, written over, counted. -/
import Derived.Test.YtkmjnbfhfjafpaaDoorBytesB
namespace Go.Proofs.YtkmjnbfhfjafpaaDoor
set_option linter.unusedVariables false
set_option linter.unusedSimpArgs false
open Go.RowKit
def rdB : Rd (List UInt8) := Rd.slice Rd.u8
def rdN : Rd (List (List UInt8)) := Rd.slice rdB
theorem elt_nested : Elt Tryd.prog 23 29 1 24 := Elt.mk' (z := .slice none 0 0) Tryd.underlying23 (by kernel_rfl) rfl (by decide)
theorem n_get {w : World} {A : Option Addr} {n : Nat} {l : List (List UInt8)} (h : rdB.Sl w A n l) (k : Nat) (hk : k < n) : ∃ b o A' c', A = some ⟨b, o, none⟩ ∧ w.cell? ⟨b, o + k, none⟩ = some (.slice A' (l[k]'(by rw [h.1]; exact hk)).length c') ∧ (l[k]'(by rw [h.1]; exact hk)).length ≤ c' ∧ Rd.u8.Sl w A' (l[k]'(by rw [h.1]; exact hk)).length (l[k]'(by rw [h.1]; exact hk)) := by
  obtain ⟨b, o, cs, e, ⟨A', c', hK, hl, hS⟩, hc⟩ := h.get k hk
  have h0 := hc 0 _ (by rw [hK]; rfl)
  refine ⟨b, o, A', c', e, ?_, hl, hS⟩
  simpa [rdB, Rd.slice] using h0
theorem own_nested {w : World} {lo hi base : Nat} {e : TypeId} {v : Value} {l : List (List UInt8)} {vs : List Value} (h : w.ownsRow base e 1 v l.length vs) (hb : lo ≤ base) (hh : w.heap.size ≤ hi) (he : ∀ i (h : i < l.length), ∃ u, vs[i]? = some u ∧ rdB.K (only w lo hi) l[i] [u]) : ∃ A c, v = .slice A l.length c ∧ l.length ≤ c ∧ rdB.Sl (only w lo hi) A l.length l := by
  obtain ⟨hl, ⟨rfl, hn⟩ | ⟨g, cap, cur, rfl, hbg, hc, hle, hm, hs, ht⟩⟩ := h
  · have hl0 : l = [] := List.eq_nil_of_length_eq_zero hn
    subst hl0
    exact ⟨none, 0, rfl, Nat.le_refl _, Rd.Sl.none _ _ none⟩
  · have hg : g < hi := Nat.lt_of_lt_of_le (Array.getElem?_eq_some_iff.1 hc).1 hh
    refine ⟨some ⟨g, 0, none⟩, cap, rfl, hle, rfl, fun _ => ⟨g, 0, rfl, fun i hi' => ?_⟩⟩
    obtain ⟨u, hu, hK⟩ := he i hi'
    refine ⟨[u], hK, fun j x hx => ?_⟩
    obtain ⟨rfl, rfl⟩ : j = 0 ∧ x = u := by
      cases j with
      | zero => simp at hx; exact ⟨rfl, hx.symm⟩
      | succ j => simp at hx
    rw [← ht, Nat.mul_one, List.getElem?_take_of_lt hi'] at hu
    refine cell_only hc (Nat.le_trans hb hbg) hg ?_
    simpa [rdB, Rd.slice] using hu
set_option maxHeartbeats 1000000 in
set_option maxRecDepth 100000 in
theorem sameNested_any (w : World) (A : Option Addr) (c : Nat) (l : List (List UInt8)) (hS : rdB.Sl w A l.length l) (hc : l.length ≤ c) (hn : l.length ≤ 9223372036854775807) (hx : ∀ x ∈ l, x.length ≤ 9223372036854775807) (A' : Option Addr) (c' : Nat) (m : List (List UInt8)) (hS' : rdB.Sl w A' m.length m) (hc' : m.length ≤ c') :
    Calls Tryd.prog 48 #[.slice A l.length c, .slice A' m.length c'] w fun e w' => e = .returned (.bool (l == m)) ∧ Ext w w' := by
  obtain ⟨v, hv⟩ : ∃ v, (l == m) = v := ⟨_, rfl⟩
  rw [hv]
  obtain ⟨n, hln⟩ : ∃ n, l.length = n := ⟨_, rfl⟩
  obtain ⟨n', hmn⟩ : ∃ n, m.length = n := ⟨_, rfl⟩
  rw [hln] at hS hc hn ⊢
  rw [hmn] at hS' hc' ⊢
  go_enter Tryd.func48, Tryd.ntmps48
  by_cases hlen : n = n'
  · subst hlen
    go_wp2_with fail
    go_loopw [5] (fun i wr => ∃ k : Nat, k ≤ n ∧ i = .int .i64 k ∧ l.take k = m.take k ∧ Ext w wr) (fun i _ => n - (intOf i).toNat)
    case atStart => exact ⟨0, by omega, rfl, rfl, Ext.refl _⟩
    case round =>
      obtain ⟨k, hkn, rfl, ht, hwr⟩ := hrel
      by_cases hlt : k < n
      · obtain ⟨b, o, A1, c1, rfl, x0, h1c, h1S⟩ := n_get hS k hlt
        obtain ⟨b', o', A2, c2, rfl, y0, h2c, h2S⟩ := n_get hS' k hlt
        have tk := take_eq_one (by omega) (by omega) ht
        have hxm := hx _ (List.getElem_mem (l := l) (n := k) (by omega))
        generalize hx : l[k]'(by omega) = x at *
        generalize hy : m[k]'(by omega) = y at *
        have r0 := fun (w' : World) (h : Ext wr w') => (hwr.trans h).cellk x0
        have r1 := fun (w' : World) (h : Ext wr w') => (hwr.trans h).cellk y0
        have hsb := fun (w' : World) (h : Ext wr w') => sameBytes_any w' A1 c1 x (h1S.ext (hwr.trans h)) h1c hxm A2 c2 y (h2S.ext (hwr.trans h)) h2c
        have hY : Ext wr wr := Ext.refl wr
        have hne : x ≠ y → v = false := fun h => by
          rw [← hv, beq_eq_false_iff_ne]
          rintro rfl
          exact h (hx.symm.trans hy)
        obtain ⟨nx, hnx⟩ : ∃ nx, x.length = nx := ⟨_, rfl⟩
        obtain ⟨ny, hny⟩ : ∃ nx, y.length = nx := ⟨_, rfl⟩
        rw [hnx] at r0 hsb
        rw [hny] at r1 hsb
        clear hS hS' hx hy x0 y0 h1S h2S hxm
        go_wp2_with fail
        by_cases hxy : x = y
        · subst hxy
          have tk := tk rfl
          simp only [beq_self_eq_true] at hsb
          clear hne ht
          refine st_start (fun _ w' => Ext wr w') (fun _ => false) (by kernel_rfl) (by kernel_rfl) (by (repeat (first | assumption | exact Ext.refl _ | refine Ext.drew ?_ | refine Ext.alloc ?_ _ | refine Ext.drewN ?_ _ | refine Ext.trans ?_ (by assumption)))) ?_
          iterate 8 (first | (refine st_off (a' := ?_) rfl (by rfl) rfl ?_ ?_; rotate_left 1; (· simp only [Act.put, List.setIfInBounds_toArray, List.set_cons_zero, List.set_cons_succ]; rfl)) | (refine st_y (v := ?_) (a' := ?_) rfl (by rfl) rfl (fun k w' hw' => ?_) ?_ ?_; rotate_left 2; (· go_simp; with_reducible rfl); (· simp only [Act.put, List.setIfInBounds_toArray, List.set_cons_zero, List.set_cons_succ]; rfl)))
          refine st_call (args := ?_) (v := .bool true) (a' := ?_) Tryd.func16 (by kernel_rfl) rfl (by rfl) rfl rfl rfl ?_ ?_ ?_ ?_
          rotate_left 2
          · simp only [List.map_toArray, List.map_cons, List.map_nil]; rfl
          · exact fun k w' hS => (hsb w' hS).mono fun e w'' h => ⟨h.1, Ext.trans hS h.2⟩
          · simp only [Act.put, List.setIfInBounds_toArray, List.set_cons_zero, List.set_cons_succ]; rfl
          iterate 1 (first | (refine st_off (a' := ?_) rfl (by rfl) rfl ?_ ?_; rotate_left 1; (· simp only [Act.put, List.setIfInBounds_toArray, List.set_cons_zero, List.set_cons_succ]; rfl)) | (refine st_y (v := ?_) (a' := ?_) rfl (by rfl) rfl (fun k w' hw' => ?_) ?_ ?_; rotate_left 2; (· go_simp; with_reducible rfl); (· simp only [Act.put, List.setIfInBounds_toArray, List.set_cons_zero, List.set_cons_succ]; rfl)))
          refine st_end ?_
          intro w1 hY1
          go_wp2_with fail
          go_roundw
          case rel => exact ⟨k + 1, by omega, by go_num, tk, hwr.trans hY1⟩
          case measure => simp [intOf]; omega
        · have hq : (x == y) = false := by rw [beq_eq_false_iff_ne]; exact hxy
          rw [hq] at hsb
          obtain rfl := hne hxy
          clear hne ht tk hq
          refine st_start (fun _ w' => Ext wr w') (fun _ => false) (by kernel_rfl) (by kernel_rfl) (by (repeat (first | assumption | exact Ext.refl _ | refine Ext.drew ?_ | refine Ext.alloc ?_ _ | refine Ext.drewN ?_ _ | refine Ext.trans ?_ (by assumption)))) ?_
          iterate 8 (first | (refine st_off (a' := ?_) rfl (by rfl) rfl ?_ ?_; rotate_left 1; (· simp only [Act.put, List.setIfInBounds_toArray, List.set_cons_zero, List.set_cons_succ]; rfl)) | (refine st_y (v := ?_) (a' := ?_) rfl (by rfl) rfl (fun k w' hw' => ?_) ?_ ?_; rotate_left 2; (· go_simp; with_reducible rfl); (· simp only [Act.put, List.setIfInBounds_toArray, List.set_cons_zero, List.set_cons_succ]; rfl)))
          refine st_call (args := ?_) (v := .bool false) (a' := ?_) Tryd.func16 (by kernel_rfl) rfl (by rfl) rfl rfl rfl ?_ ?_ ?_ ?_
          rotate_left 2
          · simp only [List.map_toArray, List.map_cons, List.map_nil]; rfl
          · exact fun k w' hS => (hsb w' hS).mono fun e w'' h => ⟨h.1, Ext.trans hS h.2⟩
          · simp only [Act.put, List.setIfInBounds_toArray, List.set_cons_zero, List.set_cons_succ]; rfl
          iterate 1 (first | (refine st_off (a' := ?_) rfl (by rfl) rfl ?_ ?_; rotate_left 1; (· simp only [Act.put, List.setIfInBounds_toArray, List.set_cons_zero, List.set_cons_succ]; rfl)) | (refine st_y (v := ?_) (a' := ?_) rfl (by rfl) rfl (fun k w' hw' => ?_) ?_ ?_; rotate_left 2; (· go_simp; with_reducible rfl); (· simp only [Act.put, List.setIfInBounds_toArray, List.set_cons_zero, List.set_cons_succ]; rfl)))
          refine st_end ?_
          intro w1 hY1
          go_wp2_with fail
          go_ret
          exact ⟨rfl, hwr.trans hY1⟩
      · obtain rfl : k = n := by omega
        have e : l = m := by rw [← List.take_length (l := l), ← List.take_length (l := m), hln, hmn]; exact ht
        go_wp2_with fail
        go_ret
        exact ⟨ret_bool (by rw [← hv, e]; simp), hwr⟩
  · have e : v = false := by
      rw [← hv, beq_eq_false_iff_ne]
      rintro rfl
      exact hlen (by rw [← hln, ← hmn])
    subst e
    go_wp2_with fail
    go_ret
    exact ⟨rfl, Ext.refl _⟩
theorem only_grow {w w' : World} {lo : Nat} (hE : Ext w w') : Cle (only w lo w.heap.size) (only w' lo w'.heap.size) := by
  rw [← only_ext (lo := lo) hE (Nat.le_refl _)]
  exact only_wide (Nat.le_refl _) hE.le
set_option maxHeartbeats 1000000 in
set_option maxRecDepth 100000 in
theorem copyNested_any (w : World) (A : Option Addr) (c : Nat) (l : List (List UInt8)) (hS : rdB.Sl w A l.length l) (hc : l.length ≤ c) (hn : l.length ≤ 4294967296) (hx : ∀ x ∈ l, x.length ≤ 4294967296) :
    Calls Tryd.prog 29 #[.slice A l.length c] w fun e w' => ∃ A' c', e = .returned (.slice A' l.length c') ∧ l.length ≤ c' ∧ rdB.Sl (only w' w.heap.size w'.heap.size) A' l.length l ∧ Ext w w' := by
  obtain ⟨n, hln⟩ : ∃ n, l.length = n := ⟨_, rfl⟩
  rw [hln] at hS hc hn ⊢
  go_enter Tryd.func29, Tryd.ntmps29
  go_wp2_with fail
  go_loopw [3, 4] (fun s3 i wr => ∃ (k : Nat) (vs : List Value), k ≤ n ∧ i = .int .i64 k ∧ wr.ownsRow w.heap.size 29 1 s3 k vs ∧ (∀ i (h : i < l.length), i < k → ∃ u, vs[i]? = some u ∧ wr.ownsRow w.heap.size 5 1 u l[i].length (l[i].flatMap encB)) ∧ Ext w wr) (fun _ i _ => n - (intOf i).toNat)
  case atStart => exact ⟨0, [], by omega, rfl, World.ownsRow_nil _ _ _ _, (fun i h hi => by omega), Ext.refl _⟩
  case round =>
    obtain ⟨k, vs, hkn, rfl, hown, hel, hwr⟩ := hrel
    by_cases hlt : k < n
    · obtain ⟨b, o, A1, c1, rfl, x0, h1c, h1S⟩ := n_get hS k hlt
      have hxm := hx _ (List.getElem_mem (l := l) (n := k) (by omega))
      generalize hx : l[k]'(by omega) = x at *
      have x0 := hwr.cellk x0
      have hcp := copyBytes_any wr A1 c1 x (h1S.ext hwr) h1c hxm
      obtain ⟨nx, hnx⟩ : ∃ nx, x.length = nx := ⟨_, rfl⟩
      rw [hnx] at x0 hcp
      have hel' := hel
      clear h1S hel
      go_wp2_with (first | (go_at_call 25; (with_reducible refine hcp.mono ?_); rintro e w1 ⟨v1, rfl, hown1, hE1⟩; have hown1 := own_base hown1 hwr.le; obtain ⟨A2, c2, hv1, -⟩ := own_bytes (lo := w.heap.size) (hi := w1.heap.size) (l := x) (by rw [hnx]; exact hown1) (Nat.le_refl _) (Nat.le_refl _); rw [hnx] at hv1; subst hv1; clear hcp; have hown0 := own_ext hown hE1) | (at_builtin; refine wpList_append_cells (news := [.slice A2 nx c2]) rfl elt_nested (.tmp 11) (.tmp 17) rfl (hown0.alloc _) rfl rfl ?c0 ?c1 ?c2 ?c3 ?c4 ?_))
      case c0 => exact ⟨rfl, (fun h => by cases h), fun ad h j u hu => (by cases h; exact new_cells w1 _ #[.slice A2 nx c2] j u hu)⟩
      case c1 => intro u hu; simp at hu; subst hu; rfl
      case c2 => unfold maxLen; omega
      case c3 => omega
      case c4 => have := hwr.le; have := hE1.le; simp; omega
      intro v' w3 hown' hgrow
      have hE := grown_ext2 ((hwr.trans hE1).alloc (.cells #[.slice A2 nx c2] 29)) (hown0.alloc _) hgrow (Nat.le_refl _)
      have hvl : vs.length = k := by have := hown0.1; omega
      have hkeep : ∀ (u : Value) (m : Nat) (cs : List Value), w1.ownsRow w.heap.size 5 1 u m cs → w3.ownsRow w.heap.size 5 1 u m cs := fun u m cs h =>
        (h.alloc _).kept hgrow (own_ne (h.alloc (.cells #[.slice A2 nx c2] 29)) (hown0.alloc _) (by decide))
      have hrel : ∀ i (h : i < l.length), i < k + 1 → ∃ u, (vs ++ [.slice A2 nx c2])[i]? = some u ∧ w3.ownsRow w.heap.size 5 1 u l[i].length (l[i].flatMap encB) := fun i h hi => by
        by_cases hik : i < k
        · obtain ⟨u, hu, hK⟩ := hel' i h hik
          exact ⟨u, by rw [List.getElem?_append_left (by omega)]; exact hu, hkeep _ _ _ (own_ext hK hE1)⟩
        · obtain rfl : i = k := by omega
          refine ⟨_, by rw [List.getElem?_append_right (by omega), hvl, Nat.sub_self]; rfl, ?_⟩
          rw [hx, hnx]
          exact hkeep _ _ _ hown1
      clear hown hgrow x0 hown0 hkeep hel' hown1
      go_wp2_with fail
      go_roundw
      case rel => exact ⟨k + 1, _, by omega, by go_num, hown', hrel, hE⟩
      case measure => simp [intOf]; omega
    · obtain rfl : k = n := by omega
      obtain ⟨A', c', hv', hc', hS'⟩ := own_nested (lo := w.heap.size) (hi := wr.heap.size) (l := l) (by rw [hln]; exact hown) (Nat.le_refl _) (Nat.le_refl _) (fun i h => by
        obtain ⟨u, a, b⟩ := hel i h (by omega)
        obtain ⟨A3, c3, rfl, b1, _, b2⟩ := own_bytes b (Nat.le_refl _) (Nat.le_refl _)
        exact ⟨_, a, A3, c3, rfl, b1, b2⟩)
      rw [hln] at hv' hc' hS'
      subst hv'
      clear hown hel
      go_wp2_with fail
      go_ret
      exact ⟨_, _, rfl, hc', hS', hwr⟩
end Go.Proofs.YtkmjnbfhfjafpaaDoor
