/- The laws' own walks. -/
import Derived.Test.YtmdjndhebgnjoaaQuota
namespace Go.Proofs.Ytmdjndhebgnjoaa
set_option linter.unusedVariables false
set_option linter.unusedSimpArgs false
open Go.RowKit
theorem nums1 : mayf 2 9 100 1 8 100 1 1 0 = 0 := by decide +kernel
theorem nums2 : mayf 2 9 100 1 8 100 0 1 1 = 23 := by decide +kernel
theorem nums3 : chk 0 (-1) 0 = 1 := by decide +kernel
set_option maxHeartbeats 1000000 in
set_option maxRecDepth 100000 in
theorem known_any (w : World) : Calls Try.prog 12 #[] w fun e w' => e = .returned (.bool true) ∧ Ext w w' := by
  obtain ⟨W, hW, hE, b1, b2⟩ := box2 w #[.int .i64 2, .int .i64 9, .int .i64 100] #[.int .i64 1, .int .i64 8, .int .i64 100] 23 23
  have c00 := b1 0 _ rfl
  have c01 := b1 1 _ rfl
  have c02 := b1 2 _ rfl
  have c10 := b2 0 _ rfl
  have c11 := b2 1 _ rfl
  have c12 := b2 2 _ rfl
  have n1 := nums1
  have n2 := nums2
  have n3 := nums3
  clear b1 b2
  go_enter Try.func12, Try.ntmps12
  go_upto_region 2 with fail
  rw [← hW]
  clear hW
  go_wp2_with fail
  refine (may_any _ _ _ _ _ _ _ _ _ _).mono ?_
  rintro e w1 ⟨rfl, hb1⟩
  have e00 := hb1.cellk c00
  have e01 := hb1.cellk c01
  have e02 := hb1.cellk c02
  have e10 := hb1.cellk c10
  have e11 := hb1.cellk c11
  have e12 := hb1.cellk c12
  clear c00 c01 c02 c10 c11 c12
  go_wp2_with fail
  refine (may_any _ _ _ _ _ _ _ _ _ _).mono ?_
  rintro e w2 ⟨rfl, hb2⟩
  go_wp2_with fail
  refine (check_any _ _ _ _).mono ?_
  rintro e w3 ⟨rfl, hb3⟩
  go_wp2
  go_ret
  exact ⟨rfl, ((hE.trans hb1).trans hb2).trans hb3⟩
set_option maxHeartbeats 1000000 in
set_option maxRecDepth 100000 in
theorem says_walk (q1 q2 q3 u1 u2 u3 m1 m2 m3 : Int) (w : World) : Calls Try.prog 3 #[.agg #[.int .i64 q1, .int .i64 q2, .int .i64 q3], .agg #[.int .i64 u1, .int .i64 u2, .int .i64 u3], .agg #[.int .i64 m1, .int .i64 m2, .int .i64 m3]] w fun e w' => e = .returned (.bool true) ∧ Ext w w' := by
  obtain ⟨W, hW, hE, b1, b2, b3⟩ := box3 w #[.int .i64 q1, .int .i64 q2, .int .i64 q3] #[.int .i64 u1, .int .i64 u2, .int .i64 u3] #[.int .i64 m1, .int .i64 m2, .int .i64 m3] 23 23 23
  have c00 := b1 0 _ rfl
  have c01 := b1 1 _ rfl
  have c02 := b1 2 _ rfl
  have c10 := b2 0 _ rfl
  have c11 := b2 1 _ rfl
  have c12 := b2 2 _ rfl
  have c20 := b3 0 _ rfl
  have c21 := b3 1 _ rfl
  have c22 := b3 2 _ rfl
  clear b1 b2 b3
  go_enter Try.func3, Try.ntmps3
  go_wp2_with fail
  rw [← hW]
  clear hW
  go_region_held3 (fun w' => w'.cell? ⟨w.heap.size, 0, none⟩ = some (.int .i64 q1) ∧ w'.cell? ⟨w.heap.size, 1, none⟩ = some (.int .i64 q2) ∧ w'.cell? ⟨w.heap.size, 2, none⟩ = some (.int .i64 q3) ∧ w'.cell? ⟨w.heap.size + 1, 0, none⟩ = some (.int .i64 u1) ∧ w'.cell? ⟨w.heap.size + 1, 1, none⟩ = some (.int .i64 u2) ∧ w'.cell? ⟨w.heap.size + 1, 2, none⟩ = some (.int .i64 u3) ∧ w'.cell? ⟨w.heap.size + 1 + 1, 0, none⟩ = some (.int .i64 m1) ∧ w'.cell? ⟨w.heap.size + 1 + 1, 1, none⟩ = some (.int .i64 m2) ∧ w'.cell? ⟨w.heap.size + 1 + 1, 2, none⟩ = some (.int .i64 m3)) (first | go_keep | (refine keepF (F := (fun w' => w'.cell? ⟨w.heap.size, 0, none⟩ = some (.int .i64 q1) ∧ w'.cell? ⟨w.heap.size, 1, none⟩ = some (.int .i64 q2) ∧ w'.cell? ⟨w.heap.size, 2, none⟩ = some (.int .i64 q3) ∧ w'.cell? ⟨w.heap.size + 1, 0, none⟩ = some (.int .i64 u1) ∧ w'.cell? ⟨w.heap.size + 1, 1, none⟩ = some (.int .i64 u2) ∧ w'.cell? ⟨w.heap.size + 1, 2, none⟩ = some (.int .i64 u3) ∧ w'.cell? ⟨w.heap.size + 1 + 1, 0, none⟩ = some (.int .i64 m1) ∧ w'.cell? ⟨w.heap.size + 1 + 1, 1, none⟩ = some (.int .i64 m2) ∧ w'.cell? ⟨w.heap.size + 1 + 1, 2, none⟩ = some (.int .i64 m3))) (by assumption) ?_ ?_; assumption; (repeat (first | exact st_cell _ _ | refine st_and ?_ ?_)))) (first | (go_at_call 6; refine (check_any _ _ _ _).mono ?_; rintro e w' ⟨rfl, hb⟩) | (go_at_call 7; refine (refcheck_any _ _ _ _).mono ?_; rintro e w' ⟨rfl, hb⟩) | (go_at_call 8; refine (sum_any _ _ _ _ _ _ _).mono ?_; rintro e w' ⟨rfl, hb⟩) | (go_at_call 9; refine (refsum_any _ _ _ _ _ _ _).mono ?_; rintro e w' ⟨rfl, hb⟩) | (go_at_call 10; refine (may_any _ _ _ _ _ _ _ _ _ _).mono ?_; rintro e w' ⟨rfl, hb⟩) | (go_at_call 11; refine (refmay_any _ _ _ _ _ _ _ _ _ _).mono ?_; rintro e w' ⟨rfl, hb⟩) | (go_at_call 12; refine (known_any _).mono ?_; rintro e w' ⟨rfl, hb⟩))
  go_wp2_with fail
  go_region_held3 (fun w' => w'.cell? ⟨w.heap.size, 0, none⟩ = some (.int .i64 q1) ∧ w'.cell? ⟨w.heap.size, 1, none⟩ = some (.int .i64 q2) ∧ w'.cell? ⟨w.heap.size, 2, none⟩ = some (.int .i64 q3) ∧ w'.cell? ⟨w.heap.size + 1, 0, none⟩ = some (.int .i64 u1) ∧ w'.cell? ⟨w.heap.size + 1, 1, none⟩ = some (.int .i64 u2) ∧ w'.cell? ⟨w.heap.size + 1, 2, none⟩ = some (.int .i64 u3) ∧ w'.cell? ⟨w.heap.size + 1 + 1, 0, none⟩ = some (.int .i64 m1) ∧ w'.cell? ⟨w.heap.size + 1 + 1, 1, none⟩ = some (.int .i64 m2) ∧ w'.cell? ⟨w.heap.size + 1 + 1, 2, none⟩ = some (.int .i64 m3)) (first | go_keep | (refine keepF (F := (fun w' => w'.cell? ⟨w.heap.size, 0, none⟩ = some (.int .i64 q1) ∧ w'.cell? ⟨w.heap.size, 1, none⟩ = some (.int .i64 q2) ∧ w'.cell? ⟨w.heap.size, 2, none⟩ = some (.int .i64 q3) ∧ w'.cell? ⟨w.heap.size + 1, 0, none⟩ = some (.int .i64 u1) ∧ w'.cell? ⟨w.heap.size + 1, 1, none⟩ = some (.int .i64 u2) ∧ w'.cell? ⟨w.heap.size + 1, 2, none⟩ = some (.int .i64 u3) ∧ w'.cell? ⟨w.heap.size + 1 + 1, 0, none⟩ = some (.int .i64 m1) ∧ w'.cell? ⟨w.heap.size + 1 + 1, 1, none⟩ = some (.int .i64 m2) ∧ w'.cell? ⟨w.heap.size + 1 + 1, 2, none⟩ = some (.int .i64 m3))) (by assumption) ?_ ?_; assumption; (repeat (first | exact st_cell _ _ | refine st_and ?_ ?_)))) (first | (go_at_call 6; refine (check_any _ _ _ _).mono ?_; rintro e w' ⟨rfl, hb⟩) | (go_at_call 7; refine (refcheck_any _ _ _ _).mono ?_; rintro e w' ⟨rfl, hb⟩) | (go_at_call 8; refine (sum_any _ _ _ _ _ _ _).mono ?_; rintro e w' ⟨rfl, hb⟩) | (go_at_call 9; refine (refsum_any _ _ _ _ _ _ _).mono ?_; rintro e w' ⟨rfl, hb⟩) | (go_at_call 10; refine (may_any _ _ _ _ _ _ _ _ _ _).mono ?_; rintro e w' ⟨rfl, hb⟩) | (go_at_call 11; refine (refmay_any _ _ _ _ _ _ _ _ _ _).mono ?_; rintro e w' ⟨rfl, hb⟩) | (go_at_call 12; refine (known_any _).mono ?_; rintro e w' ⟨rfl, hb⟩))
  go_wp2
  go_ret
  exact ⟨rfl, by (repeat (first | assumption | exact Ext.refl _ | refine Ext.drew ?_ | refine Ext.alloc ?_ _ | refine Ext.drewN ?_ _ | refine Ext.trans ?_ (by assumption)))⟩
end Go.Proofs.Ytmdjndhebgnjoaa
