/- The functions of package quota and of its reference: what each computes. -/
import Derived.Test.YtmdjndhebgnjoaaPick
namespace Go.Proofs.Ytmdjndhebgnjoaa
set_option linter.unusedVariables false
set_option linter.unusedSimpArgs false
open Go.RowKit
def pickf (i a b c : Int) : Int := if i = 0 then a else if i = 1 then b else c
theorem pick_any (i a b c : Int) (h0 : 0 ≤ i) (h3 : i < 3) (w : World) : Calls Try.prog 13 #[.int .i64 i, .agg #[.int .i64 a, .int .i64 b, .int .i64 c]] w fun e w' => e = .returned (.int .i64 (pickf i a b c)) ∧ Ext w w' := by
  have : i = 0 ∨ i = 1 ∨ i = 2 := by omega
  rcases this with rfl | rfl | rfl
  · exact pick0 a b c w
  · exact pick1 a b c w
  · exact pick2 a b c w
def okq (a b c : Int) : Bool := decide (0 ≤ a ∧ a ≤ 1099511627776 ∧ 0 ≤ b ∧ b ≤ 1099511627776 ∧ 0 ≤ c ∧ c ≤ 1099511627776)
def chk (a b c : Int) : Int := if okq a b c = true then 0 else 1
def ole (a b c a' b' c' : Int) : Bool := decide (a ≤ a' ∧ b ≤ b' ∧ c ≤ c')
def mayf (q1 q2 q3 u1 u2 u3 m1 m2 m3 : Int) : Int := if ole (wrap64 (u1 + m1)) (wrap64 (u2 + m2)) (wrap64 (u3 + m3)) q1 q2 q3 = true then 0 else 23
theorem chk_bad (k a b c : Int) (h0 : 0 ≤ k) (h3 : k < 3) (h : pickf k a b c < 0 ∨ 1099511627776 < pickf k a b c) : chk a b c = 1 := by
  unfold chk okq; rw [if_neg]; simp only [decide_eq_true_eq]; unfold pickf at h
  rintro ⟨_, _, _, _, _, _⟩
  split at h
  · omega
  · split at h <;> omega
theorem chk_good (a b c : Int) (h : ∀ j : Int, 0 ≤ j → j < 3 → 0 ≤ pickf j a b c ∧ pickf j a b c ≤ 1099511627776) : chk a b c = 0 := by
  have h0 := h 0 (by omega) (by omega)
  have h1 := h 1 (by omega) (by omega)
  have h2 := h 2 (by omega) (by omega)
  simp [pickf] at h0 h1 h2
  unfold chk okq; rw [if_pos]; simp only [decide_eq_true_eq]; omega
theorem all_next {P : Int → Prop} (k : Nat) (H : ∀ j : Int, 0 ≤ j → j < k → P j) (h : P k) : ∀ j : Int, 0 ≤ j → j < ((k + 1 : Nat) : Int) → P j := by
  intro j h0 h1
  by_cases e : j = k
  · rw [e]; exact h
  · exact H j h0 (by omega)
set_option maxHeartbeats 1000000 in
set_option maxRecDepth 100000 in
theorem check_any (a b c : Int) (w : World) : Calls Try.prog 6 #[.agg #[.int .i64 a, .int .i64 b, .int .i64 c]] w fun e w' => e = .returned (.int .i64 (chk a b c)) ∧ Ext w w' := by
  have HB := (Ext.refl w).alloc (Obj.cells #[Value.int IntKind.i64 a, Value.int IntKind.i64 b, Value.int IntKind.i64 c] 23)
  go_enter Try.func6, Try.ntmps6
  go_wp2
  go_loopw [5] (fun i wr => ∃ k : Nat, k ≤ 3 ∧ i = .int .i64 k ∧ (∀ j : Int, 0 ≤ j → j < k → 0 ≤ pickf j a b c ∧ pickf j a b c ≤ 1099511627776) ∧ Ext (w.alloc (Obj.cells #[Value.int IntKind.i64 a, Value.int IntKind.i64 b, Value.int IntKind.i64 c] 23)) wr) (fun i _ => 3 - (intOf i).toNat)
  case atStart => exact ⟨0, by omega, rfl, fun j _ _ => by omega, Ext.refl _⟩
  case round =>
    obtain ⟨k, hk, rfl, hall, hwr⟩ := hrel
    have HH := Lib.hid hall
    have c0 := hwr.box 0 rfl
    have c1 := hwr.box 1 rfl
    have c2 := hwr.box 2 rfl
    have hE := HB.trans hwr
    clear hall HB
    go_wp2_with (go_at_call 13; refine (pick_any _ a b c (by omega) (by omega) _).mono ?_; rintro e w' ⟨rfl, hb⟩)
    · go_ret
      exact ⟨ret_int (chk_bad k a b c (by omega) (by omega) (by omega)).symm, hE.trans hb⟩
    · go_roundw
      case rel => exact ⟨k + 1, by omega, by go_num, all_next k HH.out ⟨by omega, by omega⟩, hwr.trans hb⟩
      case measure => simp [intOf]; omega
    · go_ret
      exact ⟨ret_int (chk_bad k a b c (by omega) (by omega) (by omega)).symm, hE.trans hb⟩
    · go_ret
      exact ⟨ret_int (chk_good a b c (fun j h0 h3 => HH.out j h0 (by omega))).symm, hE⟩
set_option maxHeartbeats 1000000 in
set_option maxRecDepth 100000 in
theorem sum_any (a b c a' b' c' : Int) (w : World) : Calls Try.prog 8 #[.agg #[.int .i64 a, .int .i64 b, .int .i64 c], .agg #[.int .i64 a', .int .i64 b', .int .i64 c']] w fun e w' => e = .returned (.agg #[.int .i64 (wrap64 (a + a')), .int .i64 (wrap64 (b + b')), .int .i64 (wrap64 (c + c'))]) ∧ Ext w w' := by
  go_enter Try.func8, Try.ntmps8
  go_wp2
  exact bodyPost_ret (v := .agg #[.int .i64 (wrap64 (a + a')), .int .i64 (wrap64 (b + b')), .int .i64 (wrap64 (c + c'))]) (by simp [results, Try.results8, go_sem]) rfl ⟨rfl, by repeat (first | exact Ext.refl _ | refine Ext.alloc ?_ _)⟩
set_option maxHeartbeats 1000000 in
set_option maxRecDepth 100000 in
theorem refsum_any (a b c a' b' c' : Int) (w : World) : Calls Try.prog 9 #[.agg #[.int .i64 a, .int .i64 b, .int .i64 c], .agg #[.int .i64 a', .int .i64 b', .int .i64 c']] w fun e w' => e = .returned (.agg #[.int .i64 (wrap64 (a + a')), .int .i64 (wrap64 (b + b')), .int .i64 (wrap64 (c + c'))]) ∧ Ext w w' := by
  go_enter Try.func9, Try.ntmps9
  go_wp2
  exact bodyPost_ret (v := .agg #[.int .i64 (wrap64 (a + a')), .int .i64 (wrap64 (b + b')), .int .i64 (wrap64 (c + c'))]) (by simp [results, Try.results9, go_sem]) rfl ⟨rfl, by repeat (first | exact Ext.refl _ | refine Ext.alloc ?_ _)⟩
set_option maxHeartbeats 1000000 in
set_option maxRecDepth 100000 in
theorem refcheck_any (a b c : Int) (w : World) : Calls Try.prog 7 #[.agg #[.int .i64 a, .int .i64 b, .int .i64 c]] w fun e w' => e = .returned (.int .i64 (chk a b c)) ∧ Ext w w' := by
  by_cases h : okq a b c = true
  · have hc : chk a b c = 0 := by unfold chk; rw [if_pos h]
    rw [hc]; clear hc
    simp only [okq, decide_eq_true_eq] at h
    obtain ⟨h1, h2, h3, h4, h5, h6⟩ := h
    go_enter Try.func7, Try.ntmps7
    go_wp2
    go_ret
    exact ⟨rfl, (Ext.refl _).alloc _⟩
  · have hc : chk a b c = 1 := by unfold chk; rw [if_neg h]
    rw [hc]; clear hc
    simp only [okq, decide_eq_true_eq] at h
    go_enter Try.func7, Try.ntmps7
    go_wp2
    all_goals (first | (exfalso; omega) | (go_ret; exact ⟨rfl, (Ext.refl _).alloc _⟩))
set_option maxHeartbeats 1000000 in
set_option maxRecDepth 100000 in
theorem within_any (a b c a' b' c' : Int) (w : World) : Calls Try.prog 15 #[.agg #[.int .i64 a, .int .i64 b, .int .i64 c], .agg #[.int .i64 a', .int .i64 b', .int .i64 c']] w fun e w' => e = .returned (.bool (ole a b c a' b' c')) ∧ Ext w w' := by
  go_enter Try.func15, Try.ntmps15
  go_wp2
  all_goals
    go_ret
    refine ⟨ret_bool ?_, ((Ext.refl _).alloc _).alloc _⟩
    rw [Bool.eq_iff_iff]
    simp [ole]
    omega
set_option maxHeartbeats 1000000 in
set_option maxRecDepth 100000 in
theorem refmay_any (q1 q2 q3 u1 u2 u3 m1 m2 m3 : Int) (w : World) : Calls Try.prog 11 #[.agg #[.int .i64 q1, .int .i64 q2, .int .i64 q3], .agg #[.int .i64 u1, .int .i64 u2, .int .i64 u3], .agg #[.int .i64 m1, .int .i64 m2, .int .i64 m3]] w fun e w' => e = .returned (.int .i64 (mayf q1 q2 q3 u1 u2 u3 m1 m2 m3)) ∧ Ext w w' := by
  obtain ⟨W, hW, hE, b1, b2, b3⟩ := box3 w #[.int .i64 q1, .int .i64 q2, .int .i64 q3] #[.int .i64 u1, .int .i64 u2, .int .i64 u3] #[.int .i64 m1, .int .i64 m2, .int .i64 m3] 23 23 23
  have c00 := b1 0 _ rfl
  have c01 := b1 1 _ rfl
  have c02 := b1 2 _ rfl
  have c10 := b2 0 _ rfl
  have c11 := b2 1 _ rfl
  have c12 := b2 2 _ rfl
  have c20 := b3 0 _ rfl
  have c21 := b3 1 _ rfl
  have c22 := b3 2 _ rfl
  clear b1 b2 b3
  go_enter Try.func11, Try.ntmps11
  go_wp2_with fail
  rw [← hW]
  clear hW
  go_region_held3 (fun w' => w'.cell? ⟨w.heap.size, 0, none⟩ = some (.int .i64 q1) ∧ w'.cell? ⟨w.heap.size, 1, none⟩ = some (.int .i64 q2) ∧ w'.cell? ⟨w.heap.size, 2, none⟩ = some (.int .i64 q3) ∧ w'.cell? ⟨w.heap.size + 1, 0, none⟩ = some (.int .i64 u1) ∧ w'.cell? ⟨w.heap.size + 1, 1, none⟩ = some (.int .i64 u2) ∧ w'.cell? ⟨w.heap.size + 1, 2, none⟩ = some (.int .i64 u3) ∧ w'.cell? ⟨w.heap.size + 1 + 1, 0, none⟩ = some (.int .i64 m1) ∧ w'.cell? ⟨w.heap.size + 1 + 1, 1, none⟩ = some (.int .i64 m2) ∧ w'.cell? ⟨w.heap.size + 1 + 1, 2, none⟩ = some (.int .i64 m3)) (first | go_keep | (refine keepF (F := (fun w' => w'.cell? ⟨w.heap.size, 0, none⟩ = some (.int .i64 q1) ∧ w'.cell? ⟨w.heap.size, 1, none⟩ = some (.int .i64 q2) ∧ w'.cell? ⟨w.heap.size, 2, none⟩ = some (.int .i64 q3) ∧ w'.cell? ⟨w.heap.size + 1, 0, none⟩ = some (.int .i64 u1) ∧ w'.cell? ⟨w.heap.size + 1, 1, none⟩ = some (.int .i64 u2) ∧ w'.cell? ⟨w.heap.size + 1, 2, none⟩ = some (.int .i64 u3) ∧ w'.cell? ⟨w.heap.size + 1 + 1, 0, none⟩ = some (.int .i64 m1) ∧ w'.cell? ⟨w.heap.size + 1 + 1, 1, none⟩ = some (.int .i64 m2) ∧ w'.cell? ⟨w.heap.size + 1 + 1, 2, none⟩ = some (.int .i64 m3))) (by assumption) ?_ ?_; assumption; (repeat (first | exact st_cell _ _ | refine st_and ?_ ?_)))) (first | (go_at_call 9; refine (refsum_any _ _ _ _ _ _ _).mono ?_; rintro e w' ⟨rfl, hb⟩) | (go_at_call 15; refine (within_any _ _ _ _ _ _ _).mono ?_; rintro e w'' ⟨rfl, hb2⟩))
  go_wp2
  all_goals
    have ht : ole (wrap64 (u1 + m1)) (wrap64 (u2 + m2)) (wrap64 (u3 + m3)) q1 q2 q3 = true ∨ ole (wrap64 (u1 + m1)) (wrap64 (u2 + m2)) (wrap64 (u3 + m3)) q1 q2 q3 = false := by cases ole (wrap64 (u1 + m1)) (wrap64 (u2 + m2)) (wrap64 (u3 + m3)) q1 q2 q3 <;> simp
    go_ret
    refine ⟨ret_int ?_, (hE.drew.trans hb).trans hb2⟩
    simp [mayf, *]
theorem may_bad (k a b c q1 q2 q3 : Int) (h0 : 0 ≤ k) (h3 : k < 3) (h : pickf k q1 q2 q3 < pickf k a b c) : ole a b c q1 q2 q3 = false := by
  unfold pickf at h
  simp only [ole, decide_eq_false_iff_not]
  rintro ⟨_, _, _⟩
  split at h
  · omega
  · split at h <;> omega
theorem may_good (a b c q1 q2 q3 : Int) (h : ∀ j : Int, 0 ≤ j → j < 3 → pickf j a b c ≤ pickf j q1 q2 q3) : ole a b c q1 q2 q3 = true := by
  have h0 := h 0 (by omega) (by omega)
  have h1 := h 1 (by omega) (by omega)
  have h2 := h 2 (by omega) (by omega)
  simp [pickf] at h0 h1 h2
  simp only [ole, decide_eq_true_eq]; omega
set_option maxHeartbeats 1000000 in
set_option maxRecDepth 100000 in
theorem may_any (q1 q2 q3 u1 u2 u3 m1 m2 m3 : Int) (w : World) : Calls Try.prog 10 #[.agg #[.int .i64 q1, .int .i64 q2, .int .i64 q3], .agg #[.int .i64 u1, .int .i64 u2, .int .i64 u3], .agg #[.int .i64 m1, .int .i64 m2, .int .i64 m3]] w fun e w' => e = .returned (.int .i64 (mayf q1 q2 q3 u1 u2 u3 m1 m2 m3)) ∧ Ext w w' := by
  obtain ⟨W, hW, hE, b1, b2, b3⟩ := box3 w #[.int .i64 q1, .int .i64 q2, .int .i64 q3] #[.int .i64 u1, .int .i64 u2, .int .i64 u3] #[.int .i64 m1, .int .i64 m2, .int .i64 m3] 23 23 23
  have c00 := b1 0 _ rfl
  have c01 := b1 1 _ rfl
  have c02 := b1 2 _ rfl
  have c10 := b2 0 _ rfl
  have c11 := b2 1 _ rfl
  have c12 := b2 2 _ rfl
  have c20 := b3 0 _ rfl
  have c21 := b3 1 _ rfl
  have c22 := b3 2 _ rfl
  clear b1 b2 b3
  go_enter Try.func10, Try.ntmps10
  go_wp2_with fail
  rw [← hW]
  clear hW
  refine (sum_any _ _ _ _ _ _ _).mono ?_
  rintro e w2 ⟨rfl, hb⟩
  obtain ⟨X, hX, hEX, d⟩ := box1 w2 #[.int .i64 (wrap64 (u1 + m1)), .int .i64 (wrap64 (u2 + m2)), .int .i64 (wrap64 (u3 + m3))] 23
  have d0 := d 0 _ rfl
  have d1 := d 1 _ rfl
  have d2 := d 2 _ rfl
  have hWX := hb.trans hEX
  have q0 := hWX.cellk c00
  have q1' := hWX.cellk c01
  have q2' := hWX.cellk c02
  have hwX := hE.trans hWX
  clear d c00 c01 c02 c10 c11 c12 c20 c21 c22 hb hEX hWX hE
  go_wp2_with fail
  rw [← hX]
  clear hX
  go_loopw [12] (fun i wr => ∃ k : Nat, k ≤ 3 ∧ i = .int .i64 k ∧ (∀ j : Int, 0 ≤ j → j < k → pickf j (wrap64 (u1 + m1)) (wrap64 (u2 + m2)) (wrap64 (u3 + m3)) ≤ pickf j q1 q2 q3) ∧ Ext X wr) (fun i _ => 3 - (intOf i).toNat)
  case atStart => exact ⟨0, by omega, rfl, fun j _ _ => by omega, Ext.refl _⟩
  case round =>
    obtain ⟨k, hk, rfl, hall, hwr⟩ := hrel
    have HH := Lib.hid hall
    have e0 := hwr.cellk d0
    have e1 := hwr.cellk d1
    have e2 := hwr.cellk d2
    have e3 := hwr.cellk q0
    have e4 := hwr.cellk q1'
    have e5 := hwr.cellk q2'
    have hE := hwX.trans hwr
    clear hall d0 d1 d2 q0 q1' q2'
    go_wp2_with fail
    · go_region_held3 (fun w' => w'.cell? ⟨w2.heap.size, 0, none⟩ = some (.int .i64 (wrap64 (u1 + m1))) ∧ w'.cell? ⟨w2.heap.size, 1, none⟩ = some (.int .i64 (wrap64 (u2 + m2))) ∧ w'.cell? ⟨w2.heap.size, 2, none⟩ = some (.int .i64 (wrap64 (u3 + m3))) ∧ w'.cell? ⟨w.heap.size, 0, none⟩ = some (.int .i64 q1) ∧ w'.cell? ⟨w.heap.size, 1, none⟩ = some (.int .i64 q2) ∧ w'.cell? ⟨w.heap.size, 2, none⟩ = some (.int .i64 q3)) (first | go_keep | (refine keepF (F := (fun w' => w'.cell? ⟨w2.heap.size, 0, none⟩ = some (.int .i64 (wrap64 (u1 + m1))) ∧ w'.cell? ⟨w2.heap.size, 1, none⟩ = some (.int .i64 (wrap64 (u2 + m2))) ∧ w'.cell? ⟨w2.heap.size, 2, none⟩ = some (.int .i64 (wrap64 (u3 + m3))) ∧ w'.cell? ⟨w.heap.size, 0, none⟩ = some (.int .i64 q1) ∧ w'.cell? ⟨w.heap.size, 1, none⟩ = some (.int .i64 q2) ∧ w'.cell? ⟨w.heap.size, 2, none⟩ = some (.int .i64 q3))) (by assumption) ?_ ?_; assumption; (repeat (first | exact st_cell _ _ | refine st_and ?_ ?_)))) (first | (go_at_call 13; refine (pick_any _ _ _ _ (by omega) (by omega) _).mono ?_; rintro e w' ⟨rfl, hb⟩))
      go_wp2
      · go_ret
        refine ⟨ret_int ?_, by (repeat (first | assumption | exact Ext.refl _ | refine Ext.drew ?_ | refine Ext.alloc ?_ _ | refine Ext.drewN ?_ _ | refine Ext.trans ?_ (by assumption)))⟩
        unfold mayf; rw [may_bad k _ _ _ _ _ _ (by omega) (by omega) (by assumption)]; rfl
      · go_roundw
        case rel => exact ⟨k + 1, by omega, by go_num, all_next k HH.out (by omega), by (repeat (first | assumption | exact Ext.refl _ | refine Ext.drew ?_ | refine Ext.alloc ?_ _ | refine Ext.drewN ?_ _ | refine Ext.trans ?_ (by assumption)))⟩
        case measure => simp [intOf]; omega
    · go_wp2
      go_ret
      refine ⟨ret_int ?_, by (repeat (first | assumption | exact Ext.refl _ | refine Ext.drew ?_ | refine Ext.alloc ?_ _ | refine Ext.drewN ?_ _ | refine Ext.trans ?_ (by assumption)))⟩
      unfold mayf; rw [may_good _ _ _ _ _ _ (fun j h0 h3 => HH.out j h0 (by omega))]; rfl
end Go.Proofs.Ytmdjndhebgnjoaa
