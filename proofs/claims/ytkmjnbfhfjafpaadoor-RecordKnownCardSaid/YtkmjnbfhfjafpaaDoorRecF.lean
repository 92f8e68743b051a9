/- Records: the document's check. -/
import Derived.Test.YtkmjnbfhfjafpaaDoorRecE
namespace Go.Proofs.YtkmjnbfhfjafpaaDoor
set_option linter.unusedVariables false
set_option linter.unusedSimpArgs false
open Go.RowKit
open Go.Shelf
set_option maxHeartbeats 9000000 in
set_option maxRecDepth 100000 in
theorem rcheck_any (w : World) (r : Rec) (A : Option Addr) (c : Nat) (hS : rdB.Sl w A r.sealed.length r.sealed) (hc : r.sealed.length ≤ c) (hn : r.sealed.length ≤ 1000000) (hm : ∀ x ∈ r.sealed, x.length ≤ 9223372036854775807) :
    Calls Tryd.prog 15 #[.agg #[.string r.ten, .int .i64 r.clock, .int .i64 r.kind, .int .i64 r.code, .int .i64 r.id, .string r.st, .string r.su, .int .i64 r.slot, .int .i64 r.uses, .int .i64 r.num, .slice A r.sealed.length c]] w fun e w' => e = .returned (.int .i64 (checkG r)) ∧ Ext w w' := by
  obtain ⟨W, hW, hE, bx⟩ := box1 w #[.string r.ten, .int .i64 r.clock, .int .i64 r.kind, .int .i64 r.code, .int .i64 r.id, .string r.st, .string r.su, .int .i64 r.slot, .int .i64 r.uses, .int .i64 r.num, .slice A r.sealed.length c] 25
  have x0 : W.cell? ⟨w.heap.size, 0, none⟩ = some (.string r.ten) := bx 0 _ rfl
  have r0 := fun (w' : World) (h : Ext W w') => h.cellk x0
  have x1 : W.cell? ⟨w.heap.size, 1, none⟩ = some (.int .i64 r.clock) := bx 1 _ rfl
  have r1 := fun (w' : World) (h : Ext W w') => h.cellk x1
  have x2 : W.cell? ⟨w.heap.size, 2, none⟩ = some (.int .i64 r.kind) := bx 2 _ rfl
  have r2 := fun (w' : World) (h : Ext W w') => h.cellk x2
  have x3 : W.cell? ⟨w.heap.size, 3, none⟩ = some (.int .i64 r.code) := bx 3 _ rfl
  have r3 := fun (w' : World) (h : Ext W w') => h.cellk x3
  have x4 : W.cell? ⟨w.heap.size, 4, none⟩ = some (.int .i64 r.id) := bx 4 _ rfl
  have r4 := fun (w' : World) (h : Ext W w') => h.cellk x4
  have x5 : W.cell? ⟨w.heap.size, 5, none⟩ = some (.string r.st) := bx 5 _ rfl
  have r5 := fun (w' : World) (h : Ext W w') => h.cellk x5
  have x6 : W.cell? ⟨w.heap.size, 6, none⟩ = some (.string r.su) := bx 6 _ rfl
  have r6 := fun (w' : World) (h : Ext W w') => h.cellk x6
  have x7 : W.cell? ⟨w.heap.size, 7, none⟩ = some (.int .i64 r.slot) := bx 7 _ rfl
  have r7 := fun (w' : World) (h : Ext W w') => h.cellk x7
  have x8 : W.cell? ⟨w.heap.size, 8, none⟩ = some (.int .i64 r.uses) := bx 8 _ rfl
  have r8 := fun (w' : World) (h : Ext W w') => h.cellk x8
  have x9 : W.cell? ⟨w.heap.size, 9, none⟩ = some (.int .i64 r.num) := bx 9 _ rfl
  have r9 := fun (w' : World) (h : Ext W w') => h.cellk x9
  have x10 : W.cell? ⟨w.heap.size, 10, none⟩ = some (.slice A r.sealed.length c) := bx 10 _ rfl
  have r10 := fun (w' : World) (h : Ext W w') => h.cellk x10
  clear bx
  have hN := fun (w' : World) => rname_any r.ten false w'
  have hS1 := fun (w' : World) => rname_any r.st true w'
  have hS2 := fun (w' : World) => rname_any r.su true w'
  have hW0 := fun (w' : World) => within_any (r.clock, 1099511627776) w'
  have hW1 := fun (w' : World) => within_any (r.id, 1099511627776) w'
  have hW2 := fun (w' : World) => within_any (r.num, 1099511627776) w'
  have hW3 := fun (w' : World) => within_any (r.code, 25) w'
  have hW4 := fun (w' : World) => within_any (r.slot, 64) w'
  have hW5 := fun (w' : World) => within_any (r.uses, 200) w'
  have hMi := fun (w' : World) => field_any w' r A c (by omega)
  have hSW := hS.ext hE
  obtain ⟨v, hv⟩ : ∃ v, checkG r = v := ⟨_, rfl⟩
  rw [hv]
  unfold checkG namedG at hv
  simp only [Bool.false_and, Bool.false_or, Bool.true_and] at hN hS1 hS2
  obtain ⟨a1, ha1⟩ : ∃ b, nm r.ten.data.toList = b := ⟨_, rfl⟩
  obtain ⟨a2, ha2⟩ : ∃ b, (r.st.toList == [] || nm r.st.data.toList) = b := ⟨_, rfl⟩
  obtain ⟨a3, ha3⟩ : ∃ b, (r.su.toList == [] || nm r.su.data.toList) = b := ⟨_, rfl⟩
  obtain ⟨o0, ho0⟩ : ∃ b, oddB (r.clock, 1099511627776) = b := ⟨_, rfl⟩
  obtain ⟨o1, ho1⟩ : ∃ b, oddB (r.id, 1099511627776) = b := ⟨_, rfl⟩
  obtain ⟨o2, ho2⟩ : ∃ b, oddB (r.num, 1099511627776) = b := ⟨_, rfl⟩
  obtain ⟨o3, ho3⟩ : ∃ b, oddB (r.code, 25) = b := ⟨_, rfl⟩
  obtain ⟨o4, ho4⟩ : ∃ b, oddB (r.slot, 64) = b := ⟨_, rfl⟩
  obtain ⟨o5, ho5⟩ : ∃ b, oddB (r.uses, 200) = b := ⟨_, rfl⟩
  obtain ⟨b2, hb2⟩ : ∃ b, r.sealed.any longB = b := ⟨_, rfl⟩
  obtain ⟨b3, hb3⟩ : ∃ b, missesG r = b := ⟨_, rfl⟩
  rw [ha1, ha2, ha3, hb2, hb3] at hv
  unfold boundsG at hv
  simp only [List.any_cons, List.any_nil, Bool.or_false, ho0, ho1, ho2, ho3, ho4, ho5] at hv
  rw [ha1] at hN
  rw [ha2] at hS1
  rw [ha3] at hS2
  rw [ho0] at hW0
  rw [ho1] at hW1
  rw [ho2] at hW2
  rw [ho3] at hW3
  rw [ho4] at hW4
  rw [ho5] at hW5
  simp only at hW0 hW1 hW2 hW3 hW4 hW5
  rw [hb3] at hMi
  have hY : Ext W W := Ext.refl W
  clear hS ha1 ha2 ha3 hb3 ho0 ho1 ho2 ho3 ho4 ho5
  have HV := Lib.hid hv
  have HB2 := Lib.hid hb2
  clear hv hb2
  obtain ⟨l, hl⟩ : ∃ l, r.sealed = l := ⟨_, rfl⟩
  rw [hl] at hSW HB2 hm HV hMi hn hc hW x10 r10 ⊢
  obtain ⟨n, hln⟩ : ∃ n, l.length = n := ⟨_, rfl⟩
  rw [hln] at hSW HV hMi hn hc hW x10 r10 ⊢
  clear hl
  go_enter Tryd.func15, Tryd.ntmps15
  go_upto_region 1 with fail
  rw [← hW]
  clear hW
  cases a1
  · go_wp2_with (first | (go_at_call 44; (with_reducible refine (hN _).mono ?_); rintro e w1 ⟨rfl, hE1⟩; have hX1 : Ext W w1 := (by (repeat (first | assumption | exact Ext.refl _ | refine Ext.drew ?_ | refine Ext.alloc ?_ _ | refine Ext.drewN ?_ _ | refine Ext.trans ?_ (by assumption))))) | (go_at_call 44; (with_reducible refine (hS1 _).mono ?_); rintro e w2 ⟨rfl, hE2⟩; have hX2 : Ext W w2 := (by (repeat (first | assumption | exact Ext.refl _ | refine Ext.drew ?_ | refine Ext.alloc ?_ _ | refine Ext.drewN ?_ _ | refine Ext.trans ?_ (by assumption))))) | (go_at_call 44; (with_reducible refine (hS2 _).mono ?_); rintro e w3 ⟨rfl, hE3⟩; have hX3 : Ext W w3 := (by (repeat (first | assumption | exact Ext.refl _ | refine Ext.drew ?_ | refine Ext.alloc ?_ _ | refine Ext.drewN ?_ _ | refine Ext.trans ?_ (by assumption))))) | (go_at_call 45; (with_reducible refine (hW0 _).mono ?_); rintro e wb ⟨rfl, rfl⟩) | (go_at_call 45; (with_reducible refine (hW1 _).mono ?_); rintro e wb ⟨rfl, rfl⟩) | (go_at_call 45; (with_reducible refine (hW2 _).mono ?_); rintro e wb ⟨rfl, rfl⟩) | (go_at_call 45; (with_reducible refine (hW3 _).mono ?_); rintro e wb ⟨rfl, rfl⟩) | (go_at_call 45; (with_reducible refine (hW4 _).mono ?_); rintro e wb ⟨rfl, rfl⟩) | (go_at_call 45; (with_reducible refine (hW5 _).mono ?_); rintro e wb ⟨rfl, rfl⟩) | (go_at_call 46; (with_reducible refine (hMi _).mono ?_); rintro e w7 ⟨rfl, hE7⟩; have hX7 : Ext W w7 := (by (repeat (first | assumption | exact Ext.refl _ | refine Ext.drew ?_ | refine Ext.alloc ?_ _ | refine Ext.drewN ?_ _ | refine Ext.trans ?_ (by assumption))))))
    go_ret
    exact ⟨ret_int (by rw [← HV.out]; simp [*]), hE.trans (by (repeat (first | assumption | exact Ext.refl _ | refine Ext.drew ?_ | refine Ext.alloc ?_ _ | refine Ext.drewN ?_ _ | refine Ext.trans ?_ (by assumption))))⟩
  cases a2
  · go_wp2_with (first | (go_at_call 44; (with_reducible refine (hN _).mono ?_); rintro e w1 ⟨rfl, hE1⟩; have hX1 : Ext W w1 := (by (repeat (first | assumption | exact Ext.refl _ | refine Ext.drew ?_ | refine Ext.alloc ?_ _ | refine Ext.drewN ?_ _ | refine Ext.trans ?_ (by assumption))))) | (go_at_call 44; (with_reducible refine (hS1 _).mono ?_); rintro e w2 ⟨rfl, hE2⟩; have hX2 : Ext W w2 := (by (repeat (first | assumption | exact Ext.refl _ | refine Ext.drew ?_ | refine Ext.alloc ?_ _ | refine Ext.drewN ?_ _ | refine Ext.trans ?_ (by assumption))))) | (go_at_call 44; (with_reducible refine (hS2 _).mono ?_); rintro e w3 ⟨rfl, hE3⟩; have hX3 : Ext W w3 := (by (repeat (first | assumption | exact Ext.refl _ | refine Ext.drew ?_ | refine Ext.alloc ?_ _ | refine Ext.drewN ?_ _ | refine Ext.trans ?_ (by assumption))))) | (go_at_call 45; (with_reducible refine (hW0 _).mono ?_); rintro e wb ⟨rfl, rfl⟩) | (go_at_call 45; (with_reducible refine (hW1 _).mono ?_); rintro e wb ⟨rfl, rfl⟩) | (go_at_call 45; (with_reducible refine (hW2 _).mono ?_); rintro e wb ⟨rfl, rfl⟩) | (go_at_call 45; (with_reducible refine (hW3 _).mono ?_); rintro e wb ⟨rfl, rfl⟩) | (go_at_call 45; (with_reducible refine (hW4 _).mono ?_); rintro e wb ⟨rfl, rfl⟩) | (go_at_call 45; (with_reducible refine (hW5 _).mono ?_); rintro e wb ⟨rfl, rfl⟩) | (go_at_call 46; (with_reducible refine (hMi _).mono ?_); rintro e w7 ⟨rfl, hE7⟩; have hX7 : Ext W w7 := (by (repeat (first | assumption | exact Ext.refl _ | refine Ext.drew ?_ | refine Ext.alloc ?_ _ | refine Ext.drewN ?_ _ | refine Ext.trans ?_ (by assumption))))))
    go_ret
    exact ⟨ret_int (by rw [← HV.out]; simp [*]), hE.trans (by (repeat (first | assumption | exact Ext.refl _ | refine Ext.drew ?_ | refine Ext.alloc ?_ _ | refine Ext.drewN ?_ _ | refine Ext.trans ?_ (by assumption))))⟩
  cases a3
  · go_wp2_with (first | (go_at_call 44; (with_reducible refine (hN _).mono ?_); rintro e w1 ⟨rfl, hE1⟩; have hX1 : Ext W w1 := (by (repeat (first | assumption | exact Ext.refl _ | refine Ext.drew ?_ | refine Ext.alloc ?_ _ | refine Ext.drewN ?_ _ | refine Ext.trans ?_ (by assumption))))) | (go_at_call 44; (with_reducible refine (hS1 _).mono ?_); rintro e w2 ⟨rfl, hE2⟩; have hX2 : Ext W w2 := (by (repeat (first | assumption | exact Ext.refl _ | refine Ext.drew ?_ | refine Ext.alloc ?_ _ | refine Ext.drewN ?_ _ | refine Ext.trans ?_ (by assumption))))) | (go_at_call 44; (with_reducible refine (hS2 _).mono ?_); rintro e w3 ⟨rfl, hE3⟩; have hX3 : Ext W w3 := (by (repeat (first | assumption | exact Ext.refl _ | refine Ext.drew ?_ | refine Ext.alloc ?_ _ | refine Ext.drewN ?_ _ | refine Ext.trans ?_ (by assumption))))) | (go_at_call 45; (with_reducible refine (hW0 _).mono ?_); rintro e wb ⟨rfl, rfl⟩) | (go_at_call 45; (with_reducible refine (hW1 _).mono ?_); rintro e wb ⟨rfl, rfl⟩) | (go_at_call 45; (with_reducible refine (hW2 _).mono ?_); rintro e wb ⟨rfl, rfl⟩) | (go_at_call 45; (with_reducible refine (hW3 _).mono ?_); rintro e wb ⟨rfl, rfl⟩) | (go_at_call 45; (with_reducible refine (hW4 _).mono ?_); rintro e wb ⟨rfl, rfl⟩) | (go_at_call 45; (with_reducible refine (hW5 _).mono ?_); rintro e wb ⟨rfl, rfl⟩) | (go_at_call 46; (with_reducible refine (hMi _).mono ?_); rintro e w7 ⟨rfl, hE7⟩; have hX7 : Ext W w7 := (by (repeat (first | assumption | exact Ext.refl _ | refine Ext.drew ?_ | refine Ext.alloc ?_ _ | refine Ext.drewN ?_ _ | refine Ext.trans ?_ (by assumption))))))
    go_ret
    exact ⟨ret_int (by rw [← HV.out]; simp [*]), hE.trans (by (repeat (first | assumption | exact Ext.refl _ | refine Ext.drew ?_ | refine Ext.alloc ?_ _ | refine Ext.drewN ?_ _ | refine Ext.trans ?_ (by assumption))))⟩
  by_cases hk : r.kind < 1 ∨ 8 < r.kind
  · by_cases hk1 : r.kind < 1
    · go_wp2_with (first | (go_at_call 44; (with_reducible refine (hN _).mono ?_); rintro e w1 ⟨rfl, hE1⟩; have hX1 : Ext W w1 := (by (repeat (first | assumption | exact Ext.refl _ | refine Ext.drew ?_ | refine Ext.alloc ?_ _ | refine Ext.drewN ?_ _ | refine Ext.trans ?_ (by assumption))))) | (go_at_call 44; (with_reducible refine (hS1 _).mono ?_); rintro e w2 ⟨rfl, hE2⟩; have hX2 : Ext W w2 := (by (repeat (first | assumption | exact Ext.refl _ | refine Ext.drew ?_ | refine Ext.alloc ?_ _ | refine Ext.drewN ?_ _ | refine Ext.trans ?_ (by assumption))))) | (go_at_call 44; (with_reducible refine (hS2 _).mono ?_); rintro e w3 ⟨rfl, hE3⟩; have hX3 : Ext W w3 := (by (repeat (first | assumption | exact Ext.refl _ | refine Ext.drew ?_ | refine Ext.alloc ?_ _ | refine Ext.drewN ?_ _ | refine Ext.trans ?_ (by assumption))))) | (go_at_call 45; (with_reducible refine (hW0 _).mono ?_); rintro e wb ⟨rfl, rfl⟩) | (go_at_call 45; (with_reducible refine (hW1 _).mono ?_); rintro e wb ⟨rfl, rfl⟩) | (go_at_call 45; (with_reducible refine (hW2 _).mono ?_); rintro e wb ⟨rfl, rfl⟩) | (go_at_call 45; (with_reducible refine (hW3 _).mono ?_); rintro e wb ⟨rfl, rfl⟩) | (go_at_call 45; (with_reducible refine (hW4 _).mono ?_); rintro e wb ⟨rfl, rfl⟩) | (go_at_call 45; (with_reducible refine (hW5 _).mono ?_); rintro e wb ⟨rfl, rfl⟩) | (go_at_call 46; (with_reducible refine (hMi _).mono ?_); rintro e w7 ⟨rfl, hE7⟩; have hX7 : Ext W w7 := (by (repeat (first | assumption | exact Ext.refl _ | refine Ext.drew ?_ | refine Ext.alloc ?_ _ | refine Ext.drewN ?_ _ | refine Ext.trans ?_ (by assumption))))))
      go_ret
      exact ⟨ret_int (by rw [← HV.out]; simp [*]), hE.trans (by (repeat (first | assumption | exact Ext.refl _ | refine Ext.drew ?_ | refine Ext.alloc ?_ _ | refine Ext.drewN ?_ _ | refine Ext.trans ?_ (by assumption))))⟩
    · have hk2 : 8 < r.kind := by omega
      go_wp2_with (first | (go_at_call 44; (with_reducible refine (hN _).mono ?_); rintro e w1 ⟨rfl, hE1⟩; have hX1 : Ext W w1 := (by (repeat (first | assumption | exact Ext.refl _ | refine Ext.drew ?_ | refine Ext.alloc ?_ _ | refine Ext.drewN ?_ _ | refine Ext.trans ?_ (by assumption))))) | (go_at_call 44; (with_reducible refine (hS1 _).mono ?_); rintro e w2 ⟨rfl, hE2⟩; have hX2 : Ext W w2 := (by (repeat (first | assumption | exact Ext.refl _ | refine Ext.drew ?_ | refine Ext.alloc ?_ _ | refine Ext.drewN ?_ _ | refine Ext.trans ?_ (by assumption))))) | (go_at_call 44; (with_reducible refine (hS2 _).mono ?_); rintro e w3 ⟨rfl, hE3⟩; have hX3 : Ext W w3 := (by (repeat (first | assumption | exact Ext.refl _ | refine Ext.drew ?_ | refine Ext.alloc ?_ _ | refine Ext.drewN ?_ _ | refine Ext.trans ?_ (by assumption))))) | (go_at_call 45; (with_reducible refine (hW0 _).mono ?_); rintro e wb ⟨rfl, rfl⟩) | (go_at_call 45; (with_reducible refine (hW1 _).mono ?_); rintro e wb ⟨rfl, rfl⟩) | (go_at_call 45; (with_reducible refine (hW2 _).mono ?_); rintro e wb ⟨rfl, rfl⟩) | (go_at_call 45; (with_reducible refine (hW3 _).mono ?_); rintro e wb ⟨rfl, rfl⟩) | (go_at_call 45; (with_reducible refine (hW4 _).mono ?_); rintro e wb ⟨rfl, rfl⟩) | (go_at_call 45; (with_reducible refine (hW5 _).mono ?_); rintro e wb ⟨rfl, rfl⟩) | (go_at_call 46; (with_reducible refine (hMi _).mono ?_); rintro e w7 ⟨rfl, hE7⟩; have hX7 : Ext W w7 := (by (repeat (first | assumption | exact Ext.refl _ | refine Ext.drew ?_ | refine Ext.alloc ?_ _ | refine Ext.drewN ?_ _ | refine Ext.trans ?_ (by assumption))))))
      go_ret
      exact ⟨ret_int (by rw [← HV.out]; simp [*]), hE.trans (by (repeat (first | assumption | exact Ext.refl _ | refine Ext.drew ?_ | refine Ext.alloc ?_ _ | refine Ext.drewN ?_ _ | refine Ext.trans ?_ (by assumption))))⟩
  have hk1 : ¬ r.kind < 1 := by omega
  have hk2 : ¬ 8 < r.kind := by omega
  cases o0
  rotate_left 1
  · go_wp2_with (first | (go_at_call 44; (with_reducible refine (hN _).mono ?_); rintro e w1 ⟨rfl, hE1⟩; have hX1 : Ext W w1 := (by (repeat (first | assumption | exact Ext.refl _ | refine Ext.drew ?_ | refine Ext.alloc ?_ _ | refine Ext.drewN ?_ _ | refine Ext.trans ?_ (by assumption))))) | (go_at_call 44; (with_reducible refine (hS1 _).mono ?_); rintro e w2 ⟨rfl, hE2⟩; have hX2 : Ext W w2 := (by (repeat (first | assumption | exact Ext.refl _ | refine Ext.drew ?_ | refine Ext.alloc ?_ _ | refine Ext.drewN ?_ _ | refine Ext.trans ?_ (by assumption))))) | (go_at_call 44; (with_reducible refine (hS2 _).mono ?_); rintro e w3 ⟨rfl, hE3⟩; have hX3 : Ext W w3 := (by (repeat (first | assumption | exact Ext.refl _ | refine Ext.drew ?_ | refine Ext.alloc ?_ _ | refine Ext.drewN ?_ _ | refine Ext.trans ?_ (by assumption))))) | (go_at_call 45; (with_reducible refine (hW0 _).mono ?_); rintro e wb ⟨rfl, rfl⟩) | (go_at_call 45; (with_reducible refine (hW1 _).mono ?_); rintro e wb ⟨rfl, rfl⟩) | (go_at_call 45; (with_reducible refine (hW2 _).mono ?_); rintro e wb ⟨rfl, rfl⟩) | (go_at_call 45; (with_reducible refine (hW3 _).mono ?_); rintro e wb ⟨rfl, rfl⟩) | (go_at_call 45; (with_reducible refine (hW4 _).mono ?_); rintro e wb ⟨rfl, rfl⟩) | (go_at_call 45; (with_reducible refine (hW5 _).mono ?_); rintro e wb ⟨rfl, rfl⟩) | (go_at_call 46; (with_reducible refine (hMi _).mono ?_); rintro e w7 ⟨rfl, hE7⟩; have hX7 : Ext W w7 := (by (repeat (first | assumption | exact Ext.refl _ | refine Ext.drew ?_ | refine Ext.alloc ?_ _ | refine Ext.drewN ?_ _ | refine Ext.trans ?_ (by assumption))))))
    go_ret
    exact ⟨ret_int (by rw [← HV.out]; simp [*]), hE.trans (by (repeat (first | assumption | exact Ext.refl _ | refine Ext.drew ?_ | refine Ext.alloc ?_ _ | refine Ext.drewN ?_ _ | refine Ext.trans ?_ (by assumption))))⟩
  cases o1
  rotate_left 1
  · go_wp2_with (first | (go_at_call 44; (with_reducible refine (hN _).mono ?_); rintro e w1 ⟨rfl, hE1⟩; have hX1 : Ext W w1 := (by (repeat (first | assumption | exact Ext.refl _ | refine Ext.drew ?_ | refine Ext.alloc ?_ _ | refine Ext.drewN ?_ _ | refine Ext.trans ?_ (by assumption))))) | (go_at_call 44; (with_reducible refine (hS1 _).mono ?_); rintro e w2 ⟨rfl, hE2⟩; have hX2 : Ext W w2 := (by (repeat (first | assumption | exact Ext.refl _ | refine Ext.drew ?_ | refine Ext.alloc ?_ _ | refine Ext.drewN ?_ _ | refine Ext.trans ?_ (by assumption))))) | (go_at_call 44; (with_reducible refine (hS2 _).mono ?_); rintro e w3 ⟨rfl, hE3⟩; have hX3 : Ext W w3 := (by (repeat (first | assumption | exact Ext.refl _ | refine Ext.drew ?_ | refine Ext.alloc ?_ _ | refine Ext.drewN ?_ _ | refine Ext.trans ?_ (by assumption))))) | (go_at_call 45; (with_reducible refine (hW0 _).mono ?_); rintro e wb ⟨rfl, rfl⟩) | (go_at_call 45; (with_reducible refine (hW1 _).mono ?_); rintro e wb ⟨rfl, rfl⟩) | (go_at_call 45; (with_reducible refine (hW2 _).mono ?_); rintro e wb ⟨rfl, rfl⟩) | (go_at_call 45; (with_reducible refine (hW3 _).mono ?_); rintro e wb ⟨rfl, rfl⟩) | (go_at_call 45; (with_reducible refine (hW4 _).mono ?_); rintro e wb ⟨rfl, rfl⟩) | (go_at_call 45; (with_reducible refine (hW5 _).mono ?_); rintro e wb ⟨rfl, rfl⟩) | (go_at_call 46; (with_reducible refine (hMi _).mono ?_); rintro e w7 ⟨rfl, hE7⟩; have hX7 : Ext W w7 := (by (repeat (first | assumption | exact Ext.refl _ | refine Ext.drew ?_ | refine Ext.alloc ?_ _ | refine Ext.drewN ?_ _ | refine Ext.trans ?_ (by assumption))))))
    go_ret
    exact ⟨ret_int (by rw [← HV.out]; simp [*]), hE.trans (by (repeat (first | assumption | exact Ext.refl _ | refine Ext.drew ?_ | refine Ext.alloc ?_ _ | refine Ext.drewN ?_ _ | refine Ext.trans ?_ (by assumption))))⟩
  cases o2
  rotate_left 1
  · go_wp2_with (first | (go_at_call 44; (with_reducible refine (hN _).mono ?_); rintro e w1 ⟨rfl, hE1⟩; have hX1 : Ext W w1 := (by (repeat (first | assumption | exact Ext.refl _ | refine Ext.drew ?_ | refine Ext.alloc ?_ _ | refine Ext.drewN ?_ _ | refine Ext.trans ?_ (by assumption))))) | (go_at_call 44; (with_reducible refine (hS1 _).mono ?_); rintro e w2 ⟨rfl, hE2⟩; have hX2 : Ext W w2 := (by (repeat (first | assumption | exact Ext.refl _ | refine Ext.drew ?_ | refine Ext.alloc ?_ _ | refine Ext.drewN ?_ _ | refine Ext.trans ?_ (by assumption))))) | (go_at_call 44; (with_reducible refine (hS2 _).mono ?_); rintro e w3 ⟨rfl, hE3⟩; have hX3 : Ext W w3 := (by (repeat (first | assumption | exact Ext.refl _ | refine Ext.drew ?_ | refine Ext.alloc ?_ _ | refine Ext.drewN ?_ _ | refine Ext.trans ?_ (by assumption))))) | (go_at_call 45; (with_reducible refine (hW0 _).mono ?_); rintro e wb ⟨rfl, rfl⟩) | (go_at_call 45; (with_reducible refine (hW1 _).mono ?_); rintro e wb ⟨rfl, rfl⟩) | (go_at_call 45; (with_reducible refine (hW2 _).mono ?_); rintro e wb ⟨rfl, rfl⟩) | (go_at_call 45; (with_reducible refine (hW3 _).mono ?_); rintro e wb ⟨rfl, rfl⟩) | (go_at_call 45; (with_reducible refine (hW4 _).mono ?_); rintro e wb ⟨rfl, rfl⟩) | (go_at_call 45; (with_reducible refine (hW5 _).mono ?_); rintro e wb ⟨rfl, rfl⟩) | (go_at_call 46; (with_reducible refine (hMi _).mono ?_); rintro e w7 ⟨rfl, hE7⟩; have hX7 : Ext W w7 := (by (repeat (first | assumption | exact Ext.refl _ | refine Ext.drew ?_ | refine Ext.alloc ?_ _ | refine Ext.drewN ?_ _ | refine Ext.trans ?_ (by assumption))))))
    go_ret
    exact ⟨ret_int (by rw [← HV.out]; simp [*]), hE.trans (by (repeat (first | assumption | exact Ext.refl _ | refine Ext.drew ?_ | refine Ext.alloc ?_ _ | refine Ext.drewN ?_ _ | refine Ext.trans ?_ (by assumption))))⟩
  cases o3
  rotate_left 1
  · go_wp2_with (first | (go_at_call 44; (with_reducible refine (hN _).mono ?_); rintro e w1 ⟨rfl, hE1⟩; have hX1 : Ext W w1 := (by (repeat (first | assumption | exact Ext.refl _ | refine Ext.drew ?_ | refine Ext.alloc ?_ _ | refine Ext.drewN ?_ _ | refine Ext.trans ?_ (by assumption))))) | (go_at_call 44; (with_reducible refine (hS1 _).mono ?_); rintro e w2 ⟨rfl, hE2⟩; have hX2 : Ext W w2 := (by (repeat (first | assumption | exact Ext.refl _ | refine Ext.drew ?_ | refine Ext.alloc ?_ _ | refine Ext.drewN ?_ _ | refine Ext.trans ?_ (by assumption))))) | (go_at_call 44; (with_reducible refine (hS2 _).mono ?_); rintro e w3 ⟨rfl, hE3⟩; have hX3 : Ext W w3 := (by (repeat (first | assumption | exact Ext.refl _ | refine Ext.drew ?_ | refine Ext.alloc ?_ _ | refine Ext.drewN ?_ _ | refine Ext.trans ?_ (by assumption))))) | (go_at_call 45; (with_reducible refine (hW0 _).mono ?_); rintro e wb ⟨rfl, rfl⟩) | (go_at_call 45; (with_reducible refine (hW1 _).mono ?_); rintro e wb ⟨rfl, rfl⟩) | (go_at_call 45; (with_reducible refine (hW2 _).mono ?_); rintro e wb ⟨rfl, rfl⟩) | (go_at_call 45; (with_reducible refine (hW3 _).mono ?_); rintro e wb ⟨rfl, rfl⟩) | (go_at_call 45; (with_reducible refine (hW4 _).mono ?_); rintro e wb ⟨rfl, rfl⟩) | (go_at_call 45; (with_reducible refine (hW5 _).mono ?_); rintro e wb ⟨rfl, rfl⟩) | (go_at_call 46; (with_reducible refine (hMi _).mono ?_); rintro e w7 ⟨rfl, hE7⟩; have hX7 : Ext W w7 := (by (repeat (first | assumption | exact Ext.refl _ | refine Ext.drew ?_ | refine Ext.alloc ?_ _ | refine Ext.drewN ?_ _ | refine Ext.trans ?_ (by assumption))))))
    go_ret
    exact ⟨ret_int (by rw [← HV.out]; simp [*]), hE.trans (by (repeat (first | assumption | exact Ext.refl _ | refine Ext.drew ?_ | refine Ext.alloc ?_ _ | refine Ext.drewN ?_ _ | refine Ext.trans ?_ (by assumption))))⟩
  cases o4
  rotate_left 1
  · go_wp2_with (first | (go_at_call 44; (with_reducible refine (hN _).mono ?_); rintro e w1 ⟨rfl, hE1⟩; have hX1 : Ext W w1 := (by (repeat (first | assumption | exact Ext.refl _ | refine Ext.drew ?_ | refine Ext.alloc ?_ _ | refine Ext.drewN ?_ _ | refine Ext.trans ?_ (by assumption))))) | (go_at_call 44; (with_reducible refine (hS1 _).mono ?_); rintro e w2 ⟨rfl, hE2⟩; have hX2 : Ext W w2 := (by (repeat (first | assumption | exact Ext.refl _ | refine Ext.drew ?_ | refine Ext.alloc ?_ _ | refine Ext.drewN ?_ _ | refine Ext.trans ?_ (by assumption))))) | (go_at_call 44; (with_reducible refine (hS2 _).mono ?_); rintro e w3 ⟨rfl, hE3⟩; have hX3 : Ext W w3 := (by (repeat (first | assumption | exact Ext.refl _ | refine Ext.drew ?_ | refine Ext.alloc ?_ _ | refine Ext.drewN ?_ _ | refine Ext.trans ?_ (by assumption))))) | (go_at_call 45; (with_reducible refine (hW0 _).mono ?_); rintro e wb ⟨rfl, rfl⟩) | (go_at_call 45; (with_reducible refine (hW1 _).mono ?_); rintro e wb ⟨rfl, rfl⟩) | (go_at_call 45; (with_reducible refine (hW2 _).mono ?_); rintro e wb ⟨rfl, rfl⟩) | (go_at_call 45; (with_reducible refine (hW3 _).mono ?_); rintro e wb ⟨rfl, rfl⟩) | (go_at_call 45; (with_reducible refine (hW4 _).mono ?_); rintro e wb ⟨rfl, rfl⟩) | (go_at_call 45; (with_reducible refine (hW5 _).mono ?_); rintro e wb ⟨rfl, rfl⟩) | (go_at_call 46; (with_reducible refine (hMi _).mono ?_); rintro e w7 ⟨rfl, hE7⟩; have hX7 : Ext W w7 := (by (repeat (first | assumption | exact Ext.refl _ | refine Ext.drew ?_ | refine Ext.alloc ?_ _ | refine Ext.drewN ?_ _ | refine Ext.trans ?_ (by assumption))))))
    go_ret
    exact ⟨ret_int (by rw [← HV.out]; simp [*]), hE.trans (by (repeat (first | assumption | exact Ext.refl _ | refine Ext.drew ?_ | refine Ext.alloc ?_ _ | refine Ext.drewN ?_ _ | refine Ext.trans ?_ (by assumption))))⟩
  cases o5
  rotate_left 1
  · go_wp2_with (first | (go_at_call 44; (with_reducible refine (hN _).mono ?_); rintro e w1 ⟨rfl, hE1⟩; have hX1 : Ext W w1 := (by (repeat (first | assumption | exact Ext.refl _ | refine Ext.drew ?_ | refine Ext.alloc ?_ _ | refine Ext.drewN ?_ _ | refine Ext.trans ?_ (by assumption))))) | (go_at_call 44; (with_reducible refine (hS1 _).mono ?_); rintro e w2 ⟨rfl, hE2⟩; have hX2 : Ext W w2 := (by (repeat (first | assumption | exact Ext.refl _ | refine Ext.drew ?_ | refine Ext.alloc ?_ _ | refine Ext.drewN ?_ _ | refine Ext.trans ?_ (by assumption))))) | (go_at_call 44; (with_reducible refine (hS2 _).mono ?_); rintro e w3 ⟨rfl, hE3⟩; have hX3 : Ext W w3 := (by (repeat (first | assumption | exact Ext.refl _ | refine Ext.drew ?_ | refine Ext.alloc ?_ _ | refine Ext.drewN ?_ _ | refine Ext.trans ?_ (by assumption))))) | (go_at_call 45; (with_reducible refine (hW0 _).mono ?_); rintro e wb ⟨rfl, rfl⟩) | (go_at_call 45; (with_reducible refine (hW1 _).mono ?_); rintro e wb ⟨rfl, rfl⟩) | (go_at_call 45; (with_reducible refine (hW2 _).mono ?_); rintro e wb ⟨rfl, rfl⟩) | (go_at_call 45; (with_reducible refine (hW3 _).mono ?_); rintro e wb ⟨rfl, rfl⟩) | (go_at_call 45; (with_reducible refine (hW4 _).mono ?_); rintro e wb ⟨rfl, rfl⟩) | (go_at_call 45; (with_reducible refine (hW5 _).mono ?_); rintro e wb ⟨rfl, rfl⟩) | (go_at_call 46; (with_reducible refine (hMi _).mono ?_); rintro e w7 ⟨rfl, hE7⟩; have hX7 : Ext W w7 := (by (repeat (first | assumption | exact Ext.refl _ | refine Ext.drew ?_ | refine Ext.alloc ?_ _ | refine Ext.drewN ?_ _ | refine Ext.trans ?_ (by assumption))))))
    go_ret
    exact ⟨ret_int (by rw [← HV.out]; simp [*]), hE.trans (by (repeat (first | assumption | exact Ext.refl _ | refine Ext.drew ?_ | refine Ext.alloc ?_ _ | refine Ext.drewN ?_ _ | refine Ext.trans ?_ (by assumption))))⟩
  by_cases hl4 : 4 < n
  · go_wp2_with (first | (go_at_call 44; (with_reducible refine (hN _).mono ?_); rintro e w1 ⟨rfl, hE1⟩; have hX1 : Ext W w1 := (by (repeat (first | assumption | exact Ext.refl _ | refine Ext.drew ?_ | refine Ext.alloc ?_ _ | refine Ext.drewN ?_ _ | refine Ext.trans ?_ (by assumption))))) | (go_at_call 44; (with_reducible refine (hS1 _).mono ?_); rintro e w2 ⟨rfl, hE2⟩; have hX2 : Ext W w2 := (by (repeat (first | assumption | exact Ext.refl _ | refine Ext.drew ?_ | refine Ext.alloc ?_ _ | refine Ext.drewN ?_ _ | refine Ext.trans ?_ (by assumption))))) | (go_at_call 44; (with_reducible refine (hS2 _).mono ?_); rintro e w3 ⟨rfl, hE3⟩; have hX3 : Ext W w3 := (by (repeat (first | assumption | exact Ext.refl _ | refine Ext.drew ?_ | refine Ext.alloc ?_ _ | refine Ext.drewN ?_ _ | refine Ext.trans ?_ (by assumption))))) | (go_at_call 45; (with_reducible refine (hW0 _).mono ?_); rintro e wb ⟨rfl, rfl⟩) | (go_at_call 45; (with_reducible refine (hW1 _).mono ?_); rintro e wb ⟨rfl, rfl⟩) | (go_at_call 45; (with_reducible refine (hW2 _).mono ?_); rintro e wb ⟨rfl, rfl⟩) | (go_at_call 45; (with_reducible refine (hW3 _).mono ?_); rintro e wb ⟨rfl, rfl⟩) | (go_at_call 45; (with_reducible refine (hW4 _).mono ?_); rintro e wb ⟨rfl, rfl⟩) | (go_at_call 45; (with_reducible refine (hW5 _).mono ?_); rintro e wb ⟨rfl, rfl⟩) | (go_at_call 46; (with_reducible refine (hMi _).mono ?_); rintro e w7 ⟨rfl, hE7⟩; have hX7 : Ext W w7 := (by (repeat (first | assumption | exact Ext.refl _ | refine Ext.drew ?_ | refine Ext.alloc ?_ _ | refine Ext.drewN ?_ _ | refine Ext.trans ?_ (by assumption))))))
    go_ret
    exact ⟨ret_int (by rw [← HV.out]; simp [*]), hE.trans (by (repeat (first | assumption | exact Ext.refl _ | refine Ext.drew ?_ | refine Ext.alloc ?_ _ | refine Ext.drewN ?_ _ | refine Ext.trans ?_ (by assumption))))⟩
  have hl4' : n ≤ 4 := by omega
  go_wp2_with (first | (go_at_call 44; (with_reducible refine (hN _).mono ?_); rintro e w1 ⟨rfl, hE1⟩; have hX1 : Ext W w1 := (by (repeat (first | assumption | exact Ext.refl _ | refine Ext.drew ?_ | refine Ext.alloc ?_ _ | refine Ext.drewN ?_ _ | refine Ext.trans ?_ (by assumption))))) | (go_at_call 44; (with_reducible refine (hS1 _).mono ?_); rintro e w2 ⟨rfl, hE2⟩; have hX2 : Ext W w2 := (by (repeat (first | assumption | exact Ext.refl _ | refine Ext.drew ?_ | refine Ext.alloc ?_ _ | refine Ext.drewN ?_ _ | refine Ext.trans ?_ (by assumption))))) | (go_at_call 44; (with_reducible refine (hS2 _).mono ?_); rintro e w3 ⟨rfl, hE3⟩; have hX3 : Ext W w3 := (by (repeat (first | assumption | exact Ext.refl _ | refine Ext.drew ?_ | refine Ext.alloc ?_ _ | refine Ext.drewN ?_ _ | refine Ext.trans ?_ (by assumption))))) | (go_at_call 45; (with_reducible refine (hW0 _).mono ?_); rintro e wb ⟨rfl, rfl⟩) | (go_at_call 45; (with_reducible refine (hW1 _).mono ?_); rintro e wb ⟨rfl, rfl⟩) | (go_at_call 45; (with_reducible refine (hW2 _).mono ?_); rintro e wb ⟨rfl, rfl⟩) | (go_at_call 45; (with_reducible refine (hW3 _).mono ?_); rintro e wb ⟨rfl, rfl⟩) | (go_at_call 45; (with_reducible refine (hW4 _).mono ?_); rintro e wb ⟨rfl, rfl⟩) | (go_at_call 45; (with_reducible refine (hW5 _).mono ?_); rintro e wb ⟨rfl, rfl⟩) | (go_at_call 46; (with_reducible refine (hMi _).mono ?_); rintro e w7 ⟨rfl, hE7⟩; have hX7 : Ext W w7 := (by (repeat (first | assumption | exact Ext.refl _ | refine Ext.drew ?_ | refine Ext.alloc ?_ _ | refine Ext.drewN ?_ _ | refine Ext.trans ?_ (by assumption))))))
  go_loopw [3] (fun i wr => ∃ k : Nat, k ≤ n ∧ i = .int .i64 k ∧ (∀ x ∈ l.take k, longB x = false) ∧ Ext W wr) (fun i _ => n - (intOf i).toNat)
  case atStart => exact ⟨0, by omega, rfl, by simp, by (repeat (first | assumption | exact Ext.refl _ | refine Ext.drew ?_ | refine Ext.alloc ?_ _ | refine Ext.drewN ?_ _ | refine Ext.trans ?_ (by assumption)))⟩
  case round =>
    obtain ⟨k, hkn, rfl, hd, hwr⟩ := hrel
    by_cases hlt : k < n
    · obtain ⟨b, o, A1, c1, rfl, x0', -, -⟩ := n_get hSW k hlt
      have hres : longB (l[k]'(by omega)) = true → b2 = true := fun h => by
        rw [← HB2.out, List.any_eq_true]
        exact ⟨_, List.getElem_mem _, h⟩
      have htk : l.take (k + 1) = l.take k ++ [l[k]'(by omega)] := List.take_succ_eq_append_getElem (by omega)
      have hxm := hm _ (List.getElem_mem (l := l) (n := k) (by omega))
      generalize hx : l[k]'(by omega) = x at *
      have x0' := hwr.cellk x0'
      have xs := r10 _ hwr
      obtain ⟨m, hm'⟩ : ∃ m, x.length = m := ⟨_, rfl⟩
      rw [hm'] at x0' hxm
      by_cases hb : 272 < m
      · obtain rfl := hres (by unfold longB; rw [hm']; simpa using hb)
        clear hd htk hSW hx
        go_wp2_with fail
        go_ret
        exact ⟨ret_int (by rw [← HV.out]; simp [*]), hE.trans (by (repeat (first | assumption | exact Ext.refl _ | refine Ext.drew ?_ | refine Ext.alloc ?_ _ | refine Ext.drewN ?_ _ | refine Ext.trans ?_ (by assumption))))⟩
      · have hrel : ∀ y ∈ l.take (k + 1), longB y = false := by
          rw [htk]
          intro y hy
          rcases List.mem_append.1 hy with hy | hy
          · exact hd y hy
          · obtain rfl : y = x := by simpa using hy
            unfold longB; rw [hm']; simpa using hb
        clear hres hd htk hSW hx
        go_wp2_with fail
        go_roundw
        case rel => exact ⟨k + 1, by omega, by go_num, hrel, hwr⟩
        case measure => simp [intOf]; omega
    · obtain rfl : k = n := by omega
      rw [← hln, List.take_length] at hd
      obtain rfl : b2 = false := by
        rw [← HB2.out, List.any_eq_false]
        intro x hx
        rw [hd x hx]; simp
      have q0 := r0 _ hwr
      have q1 := r1 _ hwr
      have q2 := r2 _ hwr
      have q3 := r3 _ hwr
      have q4 := r4 _ hwr
      have q5 := r5 _ hwr
      have q6 := r6 _ hwr
      have q7 := r7 _ hwr
      have q8 := r8 _ hwr
      have q9 := r9 _ hwr
      have q10 := r10 _ hwr
      clear hd hSW
      cases b3
      · go_wp2_with (go_at_call 46; (with_reducible refine (hMi _).mono ?_); rintro e w7 ⟨rfl, hE7⟩)
        go_ret
        exact ⟨ret_int (by rw [← HV.out]; simp [*]), hE.trans (by (repeat (first | assumption | exact Ext.refl _ | refine Ext.drew ?_ | refine Ext.alloc ?_ _ | refine Ext.drewN ?_ _ | refine Ext.trans ?_ (by assumption))))⟩
      · go_wp2_with (go_at_call 46; (with_reducible refine (hMi _).mono ?_); rintro e w7 ⟨rfl, hE7⟩)
        go_ret
        exact ⟨ret_int (by rw [← HV.out]; simp [*]), hE.trans (by (repeat (first | assumption | exact Ext.refl _ | refine Ext.drew ?_ | refine Ext.alloc ?_ _ | refine Ext.drewN ?_ _ | refine Ext.trans ?_ (by assumption))))⟩
end Go.Proofs.YtkmjnbfhfjafpaaDoor
