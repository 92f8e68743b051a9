/- Records: fields that mean nothing, and what is wrong with one. -/
import Derived.Test.YtkmjnbfhfjafpaaDoorRecA
namespace Go.Proofs.YtkmjnbfhfjafpaaDoor
set_option linter.unusedVariables false
set_option linter.unusedSimpArgs false
open Go.RowKit
open Go.Shelf
def missesG (r : Rec) : Bool :=
  let appends := decide (r.code = 0) && decide (r.kind = 1)
  let numbers := decide (r.code = 0) && (decide (r.kind = 5) || decide (r.kind = 6))
  (appends != decide (0 < r.sealed.length)) || (!decide (r.num = 0) && !numbers) || (!appends && (!decide (r.slot = 0) || !decide (r.uses = 0)))
set_option maxHeartbeats 9000000 in
set_option maxRecDepth 100000 in
theorem misses_any (w : World) (r : Rec) (A : Option Addr) (c : Nat) (hn : r.sealed.length ≤ 9223372036854775807) : Calls Tryd.prog 43 #[.agg #[.string r.ten, .int .i64 r.clock, .int .i64 r.kind, .int .i64 r.code, .int .i64 r.id, .string r.st, .string r.su, .int .i64 r.slot, .int .i64 r.uses, .int .i64 r.num, .slice A r.sealed.length c]] w fun e w' => e = .returned (.bool (missesG r)) ∧ Ext w w' := by
  obtain ⟨W, hW, hE, bx⟩ := box1 w #[.string r.ten, .int .i64 r.clock, .int .i64 r.kind, .int .i64 r.code, .int .i64 r.id, .string r.st, .string r.su, .int .i64 r.slot, .int .i64 r.uses, .int .i64 r.num, .slice A r.sealed.length c] 25
  have x2 : W.cell? ⟨w.heap.size, 2, none⟩ = some (.int .i64 r.kind) := bx 2 _ rfl
  have x3 : W.cell? ⟨w.heap.size, 3, none⟩ = some (.int .i64 r.code) := bx 3 _ rfl
  have x7 : W.cell? ⟨w.heap.size, 7, none⟩ = some (.int .i64 r.slot) := bx 7 _ rfl
  have x8 : W.cell? ⟨w.heap.size, 8, none⟩ = some (.int .i64 r.uses) := bx 8 _ rfl
  have x9 : W.cell? ⟨w.heap.size, 9, none⟩ = some (.int .i64 r.num) := bx 9 _ rfl
  have x10 : W.cell? ⟨w.heap.size, 10, none⟩ = some (.slice A r.sealed.length c) := bx 10 _ rfl
  clear bx
  obtain ⟨v, hv⟩ : ∃ v, missesG r = v := ⟨_, rfl⟩
  rw [hv]
  unfold missesG at hv
  obtain ⟨ten, clock, kind, code, id, st, su, slot, uses, num, sealed⟩ := r
  simp only at hv x2 x3 x7 x8 x9 x10 hn hW ⊢
  obtain ⟨n, hsn⟩ : ∃ n, sealed.length = n := ⟨_, rfl⟩
  rw [hsn] at hv x10 hn hW ⊢
  have HV := Lib.hid hv
  clear hv hsn
  go_enter Tryd.func43, Tryd.ntmps43
  go_upto_region 1 with fail
  rw [← hW]
  clear hW
  by_cases hc : code = 0
  · subst hc
    by_cases hk1 : kind = 1
    · subst hk1
      by_cases hl : 0 < n
      · go_wp2_with fail
        all_goals go_ret
        all_goals (refine ⟨ret_bool ?_, hE⟩; rw [← HV.out]; by_cases h1 : num = 0 <;> by_cases h2 : slot = 0 <;> by_cases h3 : uses = 0 <;> simp_all)
      · obtain rfl : n = 0 := by omega
        go_wp2_with fail
        all_goals go_ret
        all_goals (refine ⟨ret_bool ?_, hE⟩; rw [← HV.out]; by_cases h1 : num = 0 <;> by_cases h2 : slot = 0 <;> by_cases h3 : uses = 0 <;> simp_all)
    · have hk1' : (kind == 1) = false := by simpa using hk1
      by_cases hk5 : kind = 5
      · subst hk5
        by_cases hl : 0 < n
        · go_wp2_with fail
          all_goals go_ret
          all_goals (refine ⟨ret_bool ?_, hE⟩; rw [← HV.out]; by_cases h1 : num = 0 <;> by_cases h2 : slot = 0 <;> by_cases h3 : uses = 0 <;> simp_all)
        · obtain rfl : n = 0 := by omega
          go_wp2_with fail
          all_goals go_ret
          all_goals (refine ⟨ret_bool ?_, hE⟩; rw [← HV.out]; by_cases h1 : num = 0 <;> by_cases h2 : slot = 0 <;> by_cases h3 : uses = 0 <;> simp_all)
      · have hk5' : (kind == 5) = false := by simpa using hk5
        by_cases hk6 : kind = 6
        · subst hk6
          by_cases hl : 0 < n
          · go_wp2_with fail
            all_goals go_ret
            all_goals (refine ⟨ret_bool ?_, hE⟩; rw [← HV.out]; by_cases h1 : num = 0 <;> by_cases h2 : slot = 0 <;> by_cases h3 : uses = 0 <;> simp_all)
          · obtain rfl : n = 0 := by omega
            go_wp2_with fail
            all_goals go_ret
            all_goals (refine ⟨ret_bool ?_, hE⟩; rw [← HV.out]; by_cases h1 : num = 0 <;> by_cases h2 : slot = 0 <;> by_cases h3 : uses = 0 <;> simp_all)
        · have hk6' : (kind == 6) = false := by simpa using hk6
          by_cases hl : 0 < n
          · go_wp2_with fail
            all_goals go_ret
            all_goals (refine ⟨ret_bool ?_, hE⟩; rw [← HV.out]; by_cases h1 : num = 0 <;> by_cases h2 : slot = 0 <;> by_cases h3 : uses = 0 <;> simp_all)
          · obtain rfl : n = 0 := by omega
            go_wp2_with fail
            all_goals go_ret
            all_goals (refine ⟨ret_bool ?_, hE⟩; rw [← HV.out]; by_cases h1 : num = 0 <;> by_cases h2 : slot = 0 <;> by_cases h3 : uses = 0 <;> simp_all)
  · have hc1 : (code == 0) = false := by simpa using hc
    by_cases hl : 0 < n
    · go_wp2_with fail
      all_goals go_ret
      all_goals (refine ⟨ret_bool ?_, hE⟩; rw [← HV.out]; by_cases h1 : num = 0 <;> by_cases h2 : slot = 0 <;> by_cases h3 : uses = 0 <;> simp_all)
    · obtain rfl : n = 0 := by omega
      go_wp2_with fail
      all_goals go_ret
      all_goals (refine ⟨ret_bool ?_, hE⟩; rw [← HV.out]; by_cases h1 : num = 0 <;> by_cases h2 : slot = 0 <;> by_cases h3 : uses = 0 <;> simp_all)
end Go.Proofs.YtkmjnbfhfjafpaaDoor
