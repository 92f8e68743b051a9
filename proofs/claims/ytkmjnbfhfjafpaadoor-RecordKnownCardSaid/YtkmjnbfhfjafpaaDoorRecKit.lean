/- Records in memory of their own, and written over. -/
import Derived.Test.YtkmjnbfhfjafpaaDoorRecTypes
import Derived.Test.YtkmjnbfhfjafpaaDoorNestedB
namespace Go.Proofs.YtkmjnbfhfjafpaaDoor
set_option linter.unusedVariables false
set_option linter.unusedSimpArgs false
open Go.RowKit
/-- What a callee left lies beside the caller's own boxes: these may be written. -/
theorem fin_own {w W w1 w9 : World} (hE : Ext w W) (hE1 : Ext W w1) (hX : Exc w.heap.size W.heap.size w1 w9) : Ext w w9 ∧ Cle (only w1 W.heap.size w1.heap.size) (only w9 w.heap.size w9.heap.size) := by
  refine ⟨Exc.ext (hE.trans hE1) hX (Nat.le_refl _), ?_⟩
  have e : only w9 W.heap.size w1.heap.size = only w1 W.heap.size w1.heap.size := hX.only (Nat.le_refl _) (.inr (Nat.le_refl _))
  rw [← e]
  exact only_wide hE.le hX.size
set_option maxHeartbeats 1000000 in
set_option maxRecDepth 100000 in
theorem copyRecord_any (w : World) (r : Rec) (A : Option Addr) (c : Nat) (hS : rdB.Sl w A r.sealed.length r.sealed) (hc : r.sealed.length ≤ c) (hn : r.sealed.length ≤ 4294967296) (hx : ∀ x ∈ r.sealed, x.length ≤ 4294967296) :
    Calls Tryd.prog 11 #[.agg #[.string r.ten, .int .i64 r.clock, .int .i64 r.kind, .int .i64 r.code, .int .i64 r.id, .string r.st, .string r.su, .int .i64 r.slot, .int .i64 r.uses, .int .i64 r.num, .slice A r.sealed.length c]] w fun e w' => ∃ A' c', e = .returned (.agg #[.string r.ten, .int .i64 r.clock, .int .i64 r.kind, .int .i64 r.code, .int .i64 r.id, .string r.st, .string r.su, .int .i64 r.slot, .int .i64 r.uses, .int .i64 r.num, .slice A' r.sealed.length c']) ∧ r.sealed.length ≤ c' ∧ rdB.Sl (only w' w.heap.size w'.heap.size) A' r.sealed.length r.sealed ∧ Ext w w' := by
  obtain ⟨W, hW, hE, bx, cx⟩ := box2 w #[.string r.ten, .int .i64 r.clock, .int .i64 r.kind, .int .i64 r.code, .int .i64 r.id, .string r.st, .string r.su, .int .i64 r.slot, .int .i64 r.uses, .int .i64 r.num, .slice A r.sealed.length c] #[.string ⟨#[]⟩, .int .i64 0, .int .i64 0, .int .i64 0, .int .i64 0, .string ⟨#[]⟩, .string ⟨#[]⟩, .int .i64 0, .int .i64 0, .int .i64 0, .slice none 0 0] 25 25
  have B1 : Blk W w.heap.size 25 #[.string r.ten, .int .i64 r.clock, .int .i64 r.kind, .int .i64 r.code, .int .i64 r.id, .string r.st, .string r.su, .int .i64 r.slot, .int .i64 r.uses, .int .i64 r.num, .slice A r.sealed.length c] := by rw [hW]; exact (Blk.new _ _ _).alloc _
  have B2 : Blk W (w.heap.size + 1) 25 #[.string ⟨#[]⟩, .int .i64 0, .int .i64 0, .int .i64 0, .int .i64 0, .string ⟨#[]⟩, .string ⟨#[]⟩, .int .i64 0, .int .i64 0, .int .i64 0, .slice none 0 0] := by rw [hW]; have := Blk.new (w.alloc (.cells #[.string r.ten, .int .i64 r.clock, .int .i64 r.kind, .int .i64 r.code, .int .i64 r.id, .string r.st, .string r.su, .int .i64 r.slot, .int .i64 r.uses, .int .i64 r.num, .slice A r.sealed.length c] 25)) 25 #[.string ⟨#[]⟩, .int .i64 0, .int .i64 0, .int .i64 0, .int .i64 0, .string ⟨#[]⟩, .string ⟨#[]⟩, .int .i64 0, .int .i64 0, .int .i64 0, .slice none 0 0]; simpa using this
  have hcp := copyNested_any W A c r.sealed (hS.ext hE) hc hn hx
  obtain ⟨n, hln⟩ : ∃ n, r.sealed.length = n := ⟨_, rfl⟩
  rw [hln] at hcp hc hn hW B1 ⊢
  have x10 : W.cell? ⟨w.heap.size, 10, none⟩ = some (.slice A n c) := by rw [← hln]; exact bx 10 _ rfl
  clear hS bx cx
  go_enter Tryd.func11, Tryd.ntmps11
  go_upto_region 1 with fail
  rw [← hW]
  have hWs0 : W.heap.size = w.heap.size + 2 := by rw [hW]; simp
  clear hW
  have HW0 := Lib.hid hWs0
  clear hWs0
  go_wp2_with (go_at_call 29; (with_reducible refine hcp.mono ?_); rintro e w1 ⟨A1, c1, rfl, h1c, h1S, hE1⟩; have D1 := B1.ext hE1; have D2 := B2.ext hE1; have d0 := D1.cell 0 (v := .string r.ten) rfl; have z0 := D2.cell 0 (v := .string ⟨#[]⟩) rfl; have d1 := D1.cell 1 (v := .int .i64 r.clock) rfl; have z1 := D2.cell 1 (v := .int .i64 0) rfl; have d2 := D1.cell 2 (v := .int .i64 r.kind) rfl; have z2 := D2.cell 2 (v := .int .i64 0) rfl; have d3 := D1.cell 3 (v := .int .i64 r.code) rfl; have z3 := D2.cell 3 (v := .int .i64 0) rfl; have d4 := D1.cell 4 (v := .int .i64 r.id) rfl; have z4 := D2.cell 4 (v := .int .i64 0) rfl; have d5 := D1.cell 5 (v := .string r.st) rfl; have z5 := D2.cell 5 (v := .string ⟨#[]⟩) rfl; have d6 := D1.cell 6 (v := .string r.su) rfl; have z6 := D2.cell 6 (v := .string ⟨#[]⟩) rfl; have d7 := D1.cell 7 (v := .int .i64 r.slot) rfl; have z7 := D2.cell 7 (v := .int .i64 0) rfl; have d8 := D1.cell 8 (v := .int .i64 r.uses) rfl; have z8 := D2.cell 8 (v := .int .i64 0) rfl; have d9 := D1.cell 9 (v := .int .i64 r.num) rfl; have z9 := D2.cell 9 (v := .int .i64 0) rfl; have d10 := D1.cell 10 (v := .slice A n c) rfl; have z10 := D2.cell 10 (v := .slice none 0 0) rfl; have f1 := D1.frozen 10; have g0 := D2.frozen 0; have g1 := D2.frozen 1; have g2 := D2.frozen 2; have g3 := D2.frozen 3; have g4 := D2.frozen 4; have g5 := D2.frozen 5; have g6 := D2.frozen 6; have g7 := D2.frozen 7; have g8 := D2.frozen 8; have g9 := D2.frozen 9; have g10 := D2.frozen 10; clear x10 hcp B1 B2)
  have hWs := HW0.out
  have hX := fun w9 (hX : Exc w.heap.size W.heap.size w1 w9) => fin_own hE hE1 hX
  rw [hWs] at hX h1S
  refine bodyPost_ret (v := .agg #[.string r.ten, .int .i64 r.clock, .int .i64 r.kind, .int .i64 r.code, .int .i64 r.id, .string r.st, .string r.su, .int .i64 r.slot, .int .i64 r.uses, .int .i64 r.num, .slice A1 n c1]) ?_ rfl ?_
  · simp [results, Tryd.results11, go_sem, z0, z1, z2, z3, z4, z5, z6, z7, z8, z9, z10]
  · refine ⟨A1, c1, rfl, h1c, h1S.mono (hX _ ?_).2, (hX _ ?_).1⟩ <;> ((iterate 12 (refine Exc.trans ?_ (Exc.setCell (by simp) (by simp) _))); exact Exc.refl _ _ _)
theorem Exc.blk {lo hi : Nat} {w w' : World} {g : Nat} {t : TypeId} {cs : Array Value} (h : Exc lo hi w w') (hb : Blk w g t cs) (hg : g < lo ∨ hi ≤ g) : Blk w' g t cs := (h.block g hb.lt hg).trans hb
theorem kind_bytes {w w' : World} {lo hi : Nat} {A : Option Addr} {n : Nat} {l : List UInt8} (k : Kind w w') (h : Rd.u8.Sl (only w lo hi) A n l) : ∃ y : List UInt8, y.length = n ∧ Rd.u8.Sl (only w' lo hi) A n y := by
  rcases Nat.eq_zero_or_pos n with rfl | h0
  · exact ⟨[], rfl, rfl, fun h => absurd h (Nat.lt_irrefl 0)⟩
  · obtain ⟨b, o, e, hc⟩ := h.2 h0
    have hy : ∀ i : Fin n, ∃ y : UInt8, (only w' lo hi).cell? ⟨b, o + i.1, none⟩ = some (.int .u8 y.toNat) := fun i => by
      obtain ⟨cs, hK, hcell⟩ := hc i.1 (by rw [h.1]; exact i.2)
      have h1 := hcell 0 _ (by rw [show cs = [_] from hK]; rfl)
      obtain ⟨v', hv', ht⟩ := k.only h1
      rcases ht with rfl | ⟨_, y, _, rfl⟩
      · exact ⟨_, by simpa [Rd.u8] using hv'⟩
      · exact ⟨y, by simpa [Rd.u8] using hv'⟩
    obtain ⟨f, hf⟩ := Classical.axiomOfChoice hy
    refine ⟨List.ofFn f, by simp, by simp, fun _ => ⟨b, o, e, fun i hi => ⟨[_], rfl, fun j u hu => ?_⟩⟩⟩
    obtain ⟨rfl, rfl⟩ : j = 0 ∧ _ = u := by
      cases j with
      | zero => simp at hu; exact ⟨rfl, hu⟩
      | succ j => simp at hu
    have := hf ⟨i, by simpa using hi⟩
    simpa [Rd.u8] using this
set_option maxHeartbeats 1000000 in
set_option maxRecDepth 100000 in
theorem spoilRecord_any (w : World) (lo hi : Nat) (hh : hi ≤ w.heap.size) (r : Rec) (A : Option Addr) (c : Nat) (hS : rdB.Sl (only w lo hi) A r.sealed.length r.sealed) (hc : r.sealed.length ≤ c) (hn : r.sealed.length ≤ 4294967296) (hx : ∀ x ∈ r.sealed, x.length ≤ 4294967296) :
    Calls Tryd.prog 22 #[.agg #[.string r.ten, .int .i64 r.clock, .int .i64 r.kind, .int .i64 r.code, .int .i64 r.id, .string r.st, .string r.su, .int .i64 r.slot, .int .i64 r.uses, .int .i64 r.num, .slice A r.sealed.length c]] w fun e w' => e = .returned (.tuple #[]) ∧ Exc lo hi w w' := by
  obtain ⟨W, hW, hE, bx⟩ := box1 w #[.string r.ten, .int .i64 r.clock, .int .i64 r.kind, .int .i64 r.code, .int .i64 r.id, .string r.st, .string r.su, .int .i64 r.slot, .int .i64 r.uses, .int .i64 r.num, .slice A r.sealed.length c] 25
  have B1 : Blk W w.heap.size 25 #[.string r.ten, .int .i64 r.clock, .int .i64 r.kind, .int .i64 r.code, .int .i64 r.id, .string r.st, .string r.su, .int .i64 r.slot, .int .i64 r.uses, .int .i64 r.num, .slice A r.sealed.length c] := by rw [hW]; exact Blk.new _ _ _
  have hWs : W.heap.size = w.heap.size + 1 := by rw [hW]; simp
  rw [← only_ext hE hh] at hS
  obtain ⟨n, hln⟩ : ∃ n, r.sealed.length = n := ⟨_, rfl⟩
  rw [hln] at hS hc hn hW B1 ⊢
  clear bx
  have HW := Lib.hid hWs
  clear hWs
  go_enter Tryd.func22, Tryd.ntmps22
  go_upto_region 1 with fail
  rw [← hW]
  clear hW
  go_wp2_with fail
  go_loopw [2] (fun i wr => ∃ k : Nat, k ≤ n ∧ i = .int .i64 k ∧ Exc lo hi W wr ∧ Kind W wr) (fun i _ => n - (intOf i).toNat)
  case atStart => exact ⟨0, by omega, rfl, Exc.refl _ _ _, Kind.refl _⟩
  case round =>
    obtain ⟨k, hkn, rfl, hwr, hK⟩ := hrel
    have D1 := (hwr.blk B1 (.inr hh)).cell 10 (v := .slice A n c) rfl
    by_cases hlt : k < n
    · obtain ⟨b, o, A1, c1, rfl, x0, h1c, h1S⟩ := n_get hS k hlt
      have hxm := hx _ (List.getElem_mem (l := r.sealed) (n := k) (by omega))
      generalize hx : r.sealed[k]'(by omega) = x at *
      obtain ⟨v', hv', ht⟩ := hK.only x0
      obtain rfl : v' = .slice A1 x.length c1 := by
        rcases ht with rfl | ⟨_, _, h, _⟩
        · rfl
        · cases h
      have x1 := (only_cell hv').2.2.1
      obtain ⟨y, hyl, hyS⟩ := kind_bytes hK h1S
      rw [← hyl] at x1 h1c hxm hyS
      have hsp := spoilBytes_any wr lo hi A1 c1 y hyS h1c hxm
      obtain ⟨ny, hny⟩ : ∃ ny, y.length = ny := ⟨_, rfl⟩
      rw [hny] at x1 hsp
      clear hS h1S hx x0 hv' ht hyS
      go_wp2_with (go_at_call 17; (with_reducible refine hsp.mono ?_); rintro e w2 ⟨rfl, hX2, hK2⟩)
      go_roundw
      case rel => exact ⟨k + 1, by omega, by go_num, hwr.trans hX2, hK.trans hK2⟩
      case measure => simp [intOf]; omega
    · obtain rfl : k = n := by omega
      have hR := (rowAt_nested hS).there hK.there
      have hhr : hi ≤ wr.heap.size := Nat.le_trans (Nat.le_trans hh hE.le) hwr.size
      clear hS
      go_wp2_with (go_at_call 62; (with_reducible refine (spoilNested_any wr lo hi hhr A k c hR hc hn).mono ?_); rintro e w2 ⟨rfl, hX2⟩)
      go_end0
      exact ⟨rfl, (Ext.exc hE).trans (hwr.trans hX2)⟩
end Go.Proofs.YtkmjnbfhfjafpaaDoor
