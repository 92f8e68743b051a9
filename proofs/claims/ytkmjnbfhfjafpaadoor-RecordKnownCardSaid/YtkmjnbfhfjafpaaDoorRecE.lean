/- Records: the document's answer to what is wrong with one. -/
import Derived.Test.YtkmjnbfhfjafpaaDoorRecD
namespace Go.Proofs.YtkmjnbfhfjafpaaDoor
set_option linter.unusedVariables false
set_option linter.unusedSimpArgs false
open Go.RowKit
open Go.Shelf
set_option maxHeartbeats 1000000 in
set_option maxRecDepth 100000 in
theorem rname_any (s : ByteArray) (em : Bool) (w : World) : Calls Tryd.prog 44 #[.string s, .bool em] w fun e w' => e = .returned (.bool ((em && s.toList == []) || nm s.data.toList)) ∧ Ext w w' := by
  have hn := refname_any s w
  obtain ⟨b, hb⟩ : ∃ b, (s.toList == []) = b := ⟨_, rfl⟩
  rw [hb]
  cases em
  · go_enter Tryd.func44, Tryd.ntmps44
    go_wp2_with (go_at_call 70; (with_reducible refine hn.mono ?_); rintro e w1 ⟨rfl, rfl⟩)
    go_ret
    exact ⟨ret_bool (by simp), Ext.refl _⟩
  · have hb2 : s.toList.isEmpty = b := by rw [← hb]; cases s.toList <;> rfl
    cases b
    · have hb3 : (!s.toList.isEmpty) = true := by rw [hb2]; rfl
      go_enter Tryd.func44, Tryd.ntmps44
      go_wp2_with (go_at_call 70; (with_reducible refine hn.mono ?_); rintro e w1 ⟨rfl, rfl⟩)
      go_ret
      exact ⟨ret_bool (by simp), Ext.refl _⟩
    · have hb3 : s.toList = [] := by simpa using hb
      clear hb
      go_enter Tryd.func44, Tryd.ntmps44
      go_wp2_with fail
      go_ret
      exact ⟨rfl, Ext.refl _⟩
set_option maxHeartbeats 1000000 in
set_option maxRecDepth 100000 in
theorem within_any (x : Int × Int) (w : World) : Calls Tryd.prog 45 #[.int .i64 x.1, .int .i64 x.2] w fun e w' => e = .returned (.bool (!oddB x)) ∧ w = w' := by
  obtain ⟨n, m⟩ := x
  obtain ⟨v, hv⟩ : ∃ v, (!oddB (n, m)) = v := ⟨_, rfl⟩
  rw [hv]
  unfold oddB at hv
  by_cases h1 : n < 0
  · obtain rfl : false = v := by rw [← hv]; simp [h1]
    clear hv
    go_enter Tryd.func45, Tryd.ntmps45
    go_wp2_with fail
    go_ret
    exact ⟨rfl, rfl⟩
  · have h1' : 0 ≤ n := by omega
    by_cases h2 : m < n
    · obtain rfl : false = v := by rw [← hv]; simp [h2]
      have h2' : ¬ n ≤ m := by omega
      clear hv
      go_enter Tryd.func45, Tryd.ntmps45
      go_wp2_with fail
      go_ret
      exact ⟨ret_bool (by simp [h2]), rfl⟩
    · obtain rfl : true = v := by rw [← hv]; simp [h1, h2]
      have h2' : n ≤ m := by omega
      clear hv
      go_enter Tryd.func45, Tryd.ntmps45
      go_wp2_with fail
      go_ret
      exact ⟨ret_bool (by simp [h2']), rfl⟩
set_option maxHeartbeats 9000000 in
set_option maxRecDepth 100000 in
theorem field_any (w : World) (r : Rec) (A : Option Addr) (c : Nat) (hn : r.sealed.length ≤ 9223372036854775807) : Calls Tryd.prog 46 #[.agg #[.string r.ten, .int .i64 r.clock, .int .i64 r.kind, .int .i64 r.code, .int .i64 r.id, .string r.st, .string r.su, .int .i64 r.slot, .int .i64 r.uses, .int .i64 r.num, .slice A r.sealed.length c]] w fun e w' => e = .returned (.bool (missesG r)) ∧ Ext w w' := by
  obtain ⟨W, hW, hE, bx⟩ := box1 w #[.string r.ten, .int .i64 r.clock, .int .i64 r.kind, .int .i64 r.code, .int .i64 r.id, .string r.st, .string r.su, .int .i64 r.slot, .int .i64 r.uses, .int .i64 r.num, .slice A r.sealed.length c] 25
  have x2 : W.cell? ⟨w.heap.size, 2, none⟩ = some (.int .i64 r.kind) := bx 2 _ rfl
  have x3 : W.cell? ⟨w.heap.size, 3, none⟩ = some (.int .i64 r.code) := bx 3 _ rfl
  have x7 : W.cell? ⟨w.heap.size, 7, none⟩ = some (.int .i64 r.slot) := bx 7 _ rfl
  have x8 : W.cell? ⟨w.heap.size, 8, none⟩ = some (.int .i64 r.uses) := bx 8 _ rfl
  have x9 : W.cell? ⟨w.heap.size, 9, none⟩ = some (.int .i64 r.num) := bx 9 _ rfl
  have x10 : W.cell? ⟨w.heap.size, 10, none⟩ = some (.slice A r.sealed.length c) := bx 10 _ rfl
  clear bx
  obtain ⟨v, hv⟩ : ∃ v, missesG r = v := ⟨_, rfl⟩
  rw [hv]
  unfold missesG at hv
  obtain ⟨ten, clock, kind, code, id, st, su, slot, uses, num, sealed⟩ := r
  simp only at hv x2 x3 x7 x8 x9 x10 hn hW ⊢
  obtain ⟨n, hsn⟩ : ∃ n, sealed.length = n := ⟨_, rfl⟩
  rw [hsn] at hv x10 hn hW ⊢
  have HV := Lib.hid hv
  clear hv hsn
  go_enter Tryd.func46, Tryd.ntmps46
  go_upto_region 1 with fail
  rw [← hW]
  clear hW
  by_cases hc : code = 0
  · subst hc
    by_cases hk1 : kind = 1
    · subst hk1
      by_cases hl : 0 < n
      · go_wp2_with fail
        all_goals go_ret
        all_goals (refine ⟨ret_bool ?_, hE⟩; rw [← HV.out]; by_cases h1 : num = 0 <;> by_cases h2 : slot = 0 <;> by_cases h3 : uses = 0 <;> simp_all)
      · obtain rfl : n = 0 := by omega
        go_wp2_with fail
        all_goals go_ret
        all_goals (refine ⟨ret_bool ?_, hE⟩; rw [← HV.out]; by_cases h1 : num = 0 <;> by_cases h2 : slot = 0 <;> by_cases h3 : uses = 0 <;> simp_all)
    · have hk1' : (kind == 1) = false := by simpa using hk1
      by_cases hk5 : kind = 5
      · subst hk5
        by_cases hl : 0 < n
        · go_wp2_with fail
          all_goals go_ret
          all_goals (refine ⟨ret_bool ?_, hE⟩; rw [← HV.out]; by_cases h1 : num = 0 <;> by_cases h2 : slot = 0 <;> by_cases h3 : uses = 0 <;> simp_all)
        · obtain rfl : n = 0 := by omega
          go_wp2_with fail
          all_goals go_ret
          all_goals (refine ⟨ret_bool ?_, hE⟩; rw [← HV.out]; by_cases h1 : num = 0 <;> by_cases h2 : slot = 0 <;> by_cases h3 : uses = 0 <;> simp_all)
      · have hk5' : (kind == 5) = false := by simpa using hk5
        by_cases hk6 : kind = 6
        · subst hk6
          by_cases hl : 0 < n
          · go_wp2_with fail
            all_goals go_ret
            all_goals (refine ⟨ret_bool ?_, hE⟩; rw [← HV.out]; by_cases h1 : num = 0 <;> by_cases h2 : slot = 0 <;> by_cases h3 : uses = 0 <;> simp_all)
          · obtain rfl : n = 0 := by omega
            go_wp2_with fail
            all_goals go_ret
            all_goals (refine ⟨ret_bool ?_, hE⟩; rw [← HV.out]; by_cases h1 : num = 0 <;> by_cases h2 : slot = 0 <;> by_cases h3 : uses = 0 <;> simp_all)
        · have hk6' : (kind == 6) = false := by simpa using hk6
          by_cases hl : 0 < n
          · go_wp2_with fail
            all_goals go_ret
            all_goals (refine ⟨ret_bool ?_, hE⟩; rw [← HV.out]; by_cases h1 : num = 0 <;> by_cases h2 : slot = 0 <;> by_cases h3 : uses = 0 <;> simp_all)
          · obtain rfl : n = 0 := by omega
            go_wp2_with fail
            all_goals go_ret
            all_goals (refine ⟨ret_bool ?_, hE⟩; rw [← HV.out]; by_cases h1 : num = 0 <;> by_cases h2 : slot = 0 <;> by_cases h3 : uses = 0 <;> simp_all)
  · have hc1 : (code == 0) = false := by simpa using hc
    by_cases hl : 0 < n
    · go_wp2_with fail
      all_goals go_ret
      all_goals (refine ⟨ret_bool ?_, hE⟩; rw [← HV.out]; by_cases h1 : num = 0 <;> by_cases h2 : slot = 0 <;> by_cases h3 : uses = 0 <;> simp_all)
    · obtain rfl : n = 0 := by omega
      go_wp2_with fail
      all_goals go_ret
      all_goals (refine ⟨ret_bool ?_, hE⟩; rw [← HV.out]; by_cases h1 : num = 0 <;> by_cases h2 : slot = 0 <;> by_cases h3 : uses = 0 <;> simp_all)
end Go.Proofs.YtkmjnbfhfjafpaaDoor
