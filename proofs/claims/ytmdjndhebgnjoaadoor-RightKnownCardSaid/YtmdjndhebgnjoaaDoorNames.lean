/- RightNames: the walk. -/
import Derived.Test.YtmdjndhebgnjoaaDoorWorks
import Derived.Test.YtmdjndhebgnjoaaDoorRegion
import Derived.Test.YtmdjndhebgnjoaaDoorRightPure
import Derived.Test.YtmdjndhebgnjoaaDoorKit
namespace Go.Proofs.YtmdjndhebgnjoaaDoor
set_option linter.unusedVariables false
set_option linter.unusedSimpArgs false
open Go.RowKit Go.Shelf
set_option maxHeartbeats 1000000 in
set_option maxRecDepth 100000 in
theorem names_long (s t : ByteArray) (z c : Int) (w : World) (hm : 4096 < s.size ∨ 4096 < t.size) : Calls Tryd.prog 4 #[.string s, .string t, .int .i64 z, .int .u8 c] w fun e w' => e = .returned (.bool true) ∧ Ext w w' := by
  go_enter Tryd.func4, Tryd.ntmps4
  have hX0 : Ext w w := Ext.refl w
  go_wp2_with (first | (go_at_call 10; (with_reducible refine (works_any _).mono ?_); rintro e w' ⟨rfl, hb⟩; have hX : Ext w w' := (by (repeat (first | assumption | exact Ext.refl _ | refine Ext.drew ?_ | refine Ext.alloc ?_ _ | refine Ext.drewN ?_ _ | refine Ext.trans ?_ (by assumption))))))
  all_goals go_ret
  all_goals exact ⟨rfl, by (repeat (first | assumption | exact Ext.refl _ | refine Ext.drew ?_ | refine Ext.alloc ?_ _ | refine Ext.drewN ?_ _ | refine Ext.trans ?_ (by assumption)))⟩
set_option maxHeartbeats 1000000 in
set_option maxRecDepth 100000 in
theorem names_not (s t : ByteArray) (z c : Int) (w : World) (hm : s.size ≤ 4096 ∧ t.size ≤ 4096) (hn : nm s.data.toList = false) : Calls Tryd.prog 4 #[.string s, .string t, .int .i64 z, .int .u8 c] w fun e w' => e = .returned (.bool true) ∧ Ext w w' := by
  have hss : s.size ≤ 9223372036854775807 := by omega
  go_enter Tryd.func4, Tryd.ntmps4
  have hX0 : Ext w w := Ext.refl w
  go_wp2_with (first | (go_at_call 14; (with_reducible refine (name_val s false hn hss _).mono ?_); rintro e w' ⟨rfl, hb⟩; have hX : Ext w w' := (by (repeat (first | assumption | exact Ext.refl _ | refine Ext.drew ?_ | refine Ext.alloc ?_ _ | refine Ext.drewN ?_ _ | refine Ext.trans ?_ (by assumption))))) | (go_at_call 10; (with_reducible refine (works_any _).mono ?_); rintro e w' ⟨rfl, hb⟩; have hX : Ext w w' := (by (repeat (first | assumption | exact Ext.refl _ | refine Ext.drew ?_ | refine Ext.alloc ?_ _ | refine Ext.drewN ?_ _ | refine Ext.trans ?_ (by assumption))))))
  all_goals go_ret
  all_goals exact ⟨rfl, by (repeat (first | assumption | exact Ext.refl _ | refine Ext.drew ?_ | refine Ext.alloc ?_ _ | refine Ext.drewN ?_ _ | refine Ext.trans ?_ (by assumption)))⟩
/-- May the byte c stand at place k of a name? -/
def mayZ (c : Int) (k : Nat) : Bool := decide (97 ≤ c ∧ c ≤ 122) || (decide (0 < k) && (decide (48 ≤ c ∧ c ≤ 57) || decide (c = 45) || decide (c = 46)))
set_option maxHeartbeats 1000000 in
set_option maxRecDepth 100000 in
theorem names_t0 (s t : ByteArray) (z c : Int) (w : World) (hm : s.size ≤ 4096 ∧ t.size ≤ 4096) (hz : -9223372036854775808 ≤ z ∧ z ≤ 9223372036854775807) (hc : 0 ≤ c ∧ c ≤ 255) (hn : nm s.data.toList = true) (h1 : 1 ≤ s.size ∧ s.size ≤ 24)
    (hpre : ∀ k : Nat, k < s.size → nm (s.extract 0 k).data.toList = decide (0 < k)) (hsp : ∀ k : Nat, k < s.size → nm (s.extract 0 k ++ strOfNums [c] ++ s.extract (k + 1) s.size).data.toList = mayZ c k) (ht : nm t.data.toList = false) (h45 : c ≠ 45) (h46 : c ≠ 46) : Calls Tryd.prog 4 #[.string s, .string t, .int .i64 z, .int .u8 c] w fun e w' => e = .returned (.bool true) ∧ Ext w w' := by
  have hss : s.size ≤ 9223372036854775807 := by omega
  have hts : t.size ≤ 9223372036854775807 := by omega
  go_enter Tryd.func4, Tryd.ntmps4
  have hX0 : Ext w w := Ext.refl w
  go_wp2_with (first | (go_at_call 14; (with_reducible refine (name_val s true hn hss _).mono ?_); rintro e w' ⟨rfl, hb⟩; have hX : Ext w w' := (by (repeat (first | assumption | exact Ext.refl _ | refine Ext.drew ?_ | refine Ext.alloc ?_ _ | refine Ext.drewN ?_ _ | refine Ext.trans ?_ (by assumption))))))
  refine (pick_any z s.size hz (by omega) _).mono ?_
  rintro e w' ⟨i, rfl, hi, -, rfl⟩
  obtain ⟨k, rfl⟩ : ∃ k : Nat, (k : Int) = i := ⟨i.toNat, by omega⟩
  have hk := hpre k (by omega)
  go_upto_region 6 with fail
  skip
  have hwr : wrap64 ((s.size : Int) + (t.size : Int)) = (s.size : Int) + (t.size : Int) := IntWalk.wrap64_in _ ⟨by omega, by omega⟩
  obtain ⟨kb, hkd⟩ : ∃ kb, decide (0 < k) = kb := ⟨_, rfl⟩
  rw [hkd] at hk
  cases kb
  all_goals
    go_upto_region 10 with (first | (go_at_call 14; (with_reducible refine (name_val (s.extract 0 k) _ hk (by simp; omega) _).mono ?_); rintro e w' ⟨rfl, hb⟩; have hX : Ext w w' := (by (repeat (first | assumption | exact Ext.refl _ | refine Ext.drew ?_ | refine Ext.alloc ?_ _ | refine Ext.drewN ?_ _ | refine Ext.trans ?_ (by assumption))))) | (go_at_call 14; (with_reducible refine (name_val ByteArray.empty false (by decide +kernel) (by decide +kernel) _).mono ?_); rintro e w' ⟨rfl, hb⟩; have hX : Ext w w' := (by (repeat (first | assumption | exact Ext.refl _ | refine Ext.drew ?_ | refine Ext.alloc ?_ _ | refine Ext.drewN ?_ _ | refine Ext.trans ?_ (by assumption))))) | (go_at_call 14; (with_reducible refine (name_val t false ht hts _).mono ?_); rintro e w' ⟨rfl, hb⟩; have hX : Ext w w' := (by (repeat (first | assumption | exact Ext.refl _ | refine Ext.drew ?_ | refine Ext.alloc ?_ _ | refine Ext.drewN ?_ _ | refine Ext.trans ?_ (by assumption))))))
    all_goals try (exfalso; rename_i hh; simp at hkd hh; omega)
    go_cut [9] from 57 to 62 (fun s9 wx => s9 = .bool (decide (97 ≤ c ∧ c ≤ 122)) ∧ Ext w wx)
    case first =>
      go_wp2_with fail
      all_goals go_meet
      all_goals refine ⟨?_, by (repeat (first | assumption | exact Ext.refl _ | refine Ext.drew ?_ | refine Ext.alloc ?_ _ | refine Ext.drewN ?_ _ | refine Ext.trans ?_ (by assumption)))⟩
      all_goals first
        | (rw [decide_eq_true (by omega)])
        | (rw [decide_eq_false (by omega)])
        | (simp [*] <;> omega)
    case rest =>
      obtain ⟨rfl, hE⟩ := hcut
      have hmay : mayZ c k = (decide (97 ≤ c ∧ c ≤ 122) || (decide (0 < k) && (decide (48 ≤ c ∧ c ≤ 57) || decide (c = 45) || decide (c = 46)))) := rfl
      generalize hmz : mayZ c k = mz at hmay
      generalize hsm : decide (97 ≤ c ∧ c ≤ 122) = sm at hmay
      go_upto_region 11 with fail
      go_cut [10] from 63 to 83 (fun s10 wx => s10 = .bool mz ∧ Ext w wx)
      case first =>
        cases sm
        all_goals
          go_wp2_with fail
          all_goals go_meet
          all_goals refine ⟨?_, by (repeat (first | assumption | exact Ext.refl _ | refine Ext.drew ?_ | refine Ext.alloc ?_ _ | refine Ext.drewN ?_ _ | refine Ext.trans ?_ (by assumption)))⟩
          all_goals first
            | (subst hmay; simp [*]; done)
            | (subst hmay; simp [*] <;> omega)
            | (subst hmay; simp only [Value.bool.injEq]; rw [Bool.eq_iff_iff]; simp; omega)
      case rest =>
        obtain ⟨rfl, hE2⟩ := hcut
        go_upto_region 12 with fail
        have hsp1 := hsp k (by omega)
        have hks : k ≤ s.size := by omega
        have hwk : IntKind.i64.wrap ((k : Int) + 1) = (k : Int) + 1 := by rw [IntKind.wrap_i64]; omega
        have hkb : 0 ≤ (k : Int) + 1 ∧ (k : Int) + 1 ≤ (s.size : Int) := ⟨by omega, by omega⟩
        have hkt : ((k : Int) + 1).toNat = k + 1 := by omega
        rw [hmz] at hsp1
        have hss1 : (strOfNums [c]).size = 1 := strOfNums_size _
        have hq1 : ¬ (9223372036854775807 < k + 1) := by omega
        have hq2 : ¬ (9223372036854775807 < k + 1 + (s.size - (k + 1))) := by omega
        have hw1 : IntKind.i64.wrap 1 = 1 := by decide
        have hk1 : (1 : Int).toNat = 1 := rfl
        refine wp_region_noPanic ?_
        refine rg_start [(true, 0), (true, 1), (true, 2), (true, 3), (true, 7), (true, 8), (true, 9), (true, 10), (true, 13), (false, 4), (false, 5), (true, 6), (true, 11), (false, 12), (true, 14), (true, 15), (false, 16), (true, 17), (true, 18)] (fun w' => Ext w w') (by kernel_rfl) (by kernel_rfl) (fun _ _ _ _ _ h => h) (by (repeat (first | assumption | exact Ext.refl _ | refine Ext.drew ?_ | refine Ext.alloc ?_ _ | refine Ext.drewN ?_ _ | refine Ext.trans ?_ (by assumption)))) ?_
        iterate 9
          first
            | (refine rg_off (a' := ?_) rfl rfl (by rfl) ?_ ?_; rotate_left 1; (· simp only [Act.put, List.setIfInBounds_toArray, List.set_cons_zero, List.set_cons_succ]; rfl))
            | (refine rg_y (v := ?_) (a' := ?_) rfl rfl (by rfl) (fun w' hw' => ?_) ?_ ?_; rotate_left 2; (· go_simp; (try rw [hwk]); (try rw [hw1]); (try rw [if_pos hks]); (try rw [if_pos hkb]); (try rw [hkt]); (try rw [hk1]); (try rw [if_neg hq1]); (try rw [if_neg hq2]); with_reducible rfl); (· simp only [Act.put, List.setIfInBounds_toArray, List.set_cons_zero, List.set_cons_succ]; rfl))
        refine rg_value (v := ?_) (w1 := ?_) (a' := ?_) rfl rfl (by rfl) ?_ ?_ ?_ ?_
        rotate_left 3
        · go_simp; constructor <;> with_reducible rfl
        · (repeat (first | assumption | exact Ext.refl _ | refine Ext.drew ?_ | refine Ext.alloc ?_ _ | refine Ext.drewN ?_ _ | refine Ext.trans ?_ (by assumption)))
        · simp only [Act.put, List.setIfInBounds_toArray, List.set_cons_zero, List.set_cons_succ]; rfl
        refine rg_value (v := ?_) (w1 := ?_) (a' := ?_) rfl rfl (by rfl) ?_ ?_ ?_ ?_
        rotate_left 3
        · go_simp
          rw [run_convert_bytes_arg _ 32 5 Tryd.underlying32 Tryd.underlying5 _ 0 1 1 [c] rfl (fun i hi => by obtain rfl : i = 0 := (by omega); go_simp) 9 Tryd.underlying9]
          rfl
        · (repeat (first | assumption | exact Ext.refl _ | refine Ext.drew ?_ | refine Ext.alloc ?_ _ | refine Ext.drewN ?_ _ | refine Ext.trans ?_ (by assumption)))
        · simp only [Act.put, List.setIfInBounds_toArray, List.set_cons_zero, List.set_cons_succ]; rfl
        iterate 2
          first
            | (refine rg_off (a' := ?_) rfl rfl (by rfl) ?_ ?_; rotate_left 1; (· simp only [Act.put, List.setIfInBounds_toArray, List.set_cons_zero, List.set_cons_succ]; rfl))
            | (refine rg_y (v := ?_) (a' := ?_) rfl rfl (by rfl) (fun w' hw' => ?_) ?_ ?_; rotate_left 2; (· go_simp; (try rw [hwk]); (try rw [hw1]); (try rw [if_pos hks]); (try rw [if_pos hkb]); (try rw [hkt]); (try rw [hk1]); (try rw [if_neg hq1]); (try rw [if_neg hq2]); with_reducible rfl); (· simp only [Act.put, List.setIfInBounds_toArray, List.set_cons_zero, List.set_cons_succ]; rfl))
        refine rg_call (args := ?_) rfl Tryd.func14 (by kernel_rfl) rfl (by rfl) rfl rfl ?_ ?_
        rotate_left 1
        · go_simp; rfl
        first | (with_reducible refine (name_val _ mz hsp1 (by simp only [ByteArray.size_append, ByteArray.size_extract, strOfNums_size, List.length_singleton]; omega) _).mono ?_)
        rintro e w' ⟨rfl, hb⟩
        refine ⟨_, _, rfl, by (repeat (first | assumption | exact Ext.refl _ | refine Ext.drew ?_ | refine Ext.alloc ?_ _ | refine Ext.drewN ?_ _ | refine Ext.trans ?_ (by assumption))), (by simp only [Act.put, List.setIfInBounds_toArray, List.set_cons_zero, List.set_cons_succ]; rfl), ?_⟩
        iterate 2
          first
            | (refine rg_off (a' := ?_) rfl rfl (by rfl) ?_ ?_; rotate_left 1; (· simp only [Act.put, List.setIfInBounds_toArray, List.set_cons_zero, List.set_cons_succ]; rfl))
            | (refine rg_y (v := ?_) (a' := ?_) rfl rfl (by rfl) (fun w' hw' => ?_) ?_ ?_; rotate_left 2; (· go_simp; (try rw [hwk]); (try rw [hw1]); (try rw [if_pos hks]); (try rw [if_pos hkb]); (try rw [hkt]); (try rw [hk1]); (try rw [if_neg hq1]); (try rw [if_neg hq2]); with_reducible rfl); (· simp only [Act.put, List.setIfInBounds_toArray, List.set_cons_zero, List.set_cons_succ]; rfl))
        refine rg_call (args := ?_) rfl Tryd.func10 (by kernel_rfl) rfl (by rfl) rfl rfl ?_ ?_
        rotate_left 1
        · go_simp; rfl
        first | (with_reducible refine (works_any _).mono ?_)
        rintro e w' ⟨rfl, hb⟩
        refine ⟨_, _, rfl, by (repeat (first | assumption | exact Ext.refl _ | refine Ext.drew ?_ | refine Ext.alloc ?_ _ | refine Ext.drewN ?_ _ | refine Ext.trans ?_ (by assumption))), (by simp only [Act.put, List.setIfInBounds_toArray, List.set_cons_zero, List.set_cons_succ]; rfl), ?_⟩
        iterate 2
          first
            | (refine rg_off (a' := ?_) rfl rfl (by rfl) ?_ ?_; rotate_left 1; (· simp only [Act.put, List.setIfInBounds_toArray, List.set_cons_zero, List.set_cons_succ]; rfl))
            | (refine rg_y (v := ?_) (a' := ?_) rfl rfl (by rfl) (fun w' hw' => ?_) ?_ ?_; rotate_left 2; (· go_simp; (try rw [hwk]); (try rw [hw1]); (try rw [if_pos hks]); (try rw [if_pos hkb]); (try rw [hkt]); (try rw [hk1]); (try rw [if_neg hq1]); (try rw [if_neg hq2]); with_reducible rfl); (· simp only [Act.put, List.setIfInBounds_toArray, List.set_cons_zero, List.set_cons_succ]; rfl))
        refine rg_end (NoPanic.normal ?_)
        go_wp2_with fail
        go_ret
        exact ⟨rfl, by (repeat (first | assumption | exact Ext.refl _ | refine Ext.drew ?_ | refine Ext.alloc ?_ _ | refine Ext.drewN ?_ _ | refine Ext.trans ?_ (by assumption)))⟩
set_option maxHeartbeats 1000000 in
set_option maxRecDepth 100000 in
theorem names_t0x (s t : ByteArray) (z : Int) (w : World) (hm : s.size ≤ 4096 ∧ t.size ≤ 4096) (hz : -9223372036854775808 ≤ z ∧ z ≤ 9223372036854775807) (hn : nm s.data.toList = true) (h1 : 1 ≤ s.size ∧ s.size ≤ 24)
    (hpre : ∀ k : Nat, k < s.size → nm (s.extract 0 k).data.toList = decide (0 < k)) (hsp : ∀ k : Nat, k < s.size → nm (s.extract 0 k ++ strOfNums [45] ++ s.extract (k + 1) s.size).data.toList = mayZ 45 k) (ht : nm t.data.toList = false) : Calls Tryd.prog 4 #[.string s, .string t, .int .i64 z, .int .u8 45] w fun e w' => e = .returned (.bool true) ∧ Ext w w' := by
  have hss : s.size ≤ 9223372036854775807 := by omega
  have hts : t.size ≤ 9223372036854775807 := by omega
  go_enter Tryd.func4, Tryd.ntmps4
  have hX0 : Ext w w := Ext.refl w
  go_wp2_with (first | (go_at_call 14; (with_reducible refine (name_val s true hn hss _).mono ?_); rintro e w' ⟨rfl, hb⟩; have hX : Ext w w' := (by (repeat (first | assumption | exact Ext.refl _ | refine Ext.drew ?_ | refine Ext.alloc ?_ _ | refine Ext.drewN ?_ _ | refine Ext.trans ?_ (by assumption))))))
  refine (pick_any z s.size hz (by omega) _).mono ?_
  rintro e w' ⟨i, rfl, hi, -, rfl⟩
  obtain ⟨k, rfl⟩ : ∃ k : Nat, (k : Int) = i := ⟨i.toNat, by omega⟩
  have hk := hpre k (by omega)
  go_upto_region 6 with fail
  skip
  have hwr : wrap64 ((s.size : Int) + (t.size : Int)) = (s.size : Int) + (t.size : Int) := IntWalk.wrap64_in _ ⟨by omega, by omega⟩
  obtain ⟨kb, hkd⟩ : ∃ kb, decide (0 < k) = kb := ⟨_, rfl⟩
  rw [hkd] at hk
  cases kb
  all_goals
    go_upto_region 10 with (first | (go_at_call 14; (with_reducible refine (name_val (s.extract 0 k) _ hk (by simp; omega) _).mono ?_); rintro e w' ⟨rfl, hb⟩; have hX : Ext w w' := (by (repeat (first | assumption | exact Ext.refl _ | refine Ext.drew ?_ | refine Ext.alloc ?_ _ | refine Ext.drewN ?_ _ | refine Ext.trans ?_ (by assumption))))) | (go_at_call 14; (with_reducible refine (name_val ByteArray.empty false (by decide +kernel) (by decide +kernel) _).mono ?_); rintro e w' ⟨rfl, hb⟩; have hX : Ext w w' := (by (repeat (first | assumption | exact Ext.refl _ | refine Ext.drew ?_ | refine Ext.alloc ?_ _ | refine Ext.drewN ?_ _ | refine Ext.trans ?_ (by assumption))))) | (go_at_call 14; (with_reducible refine (name_val t false ht hts _).mono ?_); rintro e w' ⟨rfl, hb⟩; have hX : Ext w w' := (by (repeat (first | assumption | exact Ext.refl _ | refine Ext.drew ?_ | refine Ext.alloc ?_ _ | refine Ext.drewN ?_ _ | refine Ext.trans ?_ (by assumption))))))
    all_goals try (exfalso; rename_i hh; simp at hkd hh; omega)
    go_cut [9] from 57 to 62 (fun s9 wx => s9 = .bool (decide (97 ≤ (45 : Int) ∧ (45 : Int) ≤ 122)) ∧ Ext w wx)
    case first =>
      go_wp2_with fail
      all_goals go_meet
      all_goals refine ⟨?_, by (repeat (first | assumption | exact Ext.refl _ | refine Ext.drew ?_ | refine Ext.alloc ?_ _ | refine Ext.drewN ?_ _ | refine Ext.trans ?_ (by assumption)))⟩
      all_goals first
        | (rw [decide_eq_true (by omega)])
        | (rw [decide_eq_false (by omega)])
        | (simp [*] <;> omega)
    case rest =>
      obtain ⟨rfl, hE⟩ := hcut
      have hmay : mayZ 45 k = (decide (97 ≤ (45 : Int) ∧ (45 : Int) ≤ 122) || (decide (0 < k) && (decide (48 ≤ (45 : Int) ∧ (45 : Int) ≤ 57) || decide ((45 : Int) = 45) || decide ((45 : Int) = 46)))) := rfl
      generalize hmz : mayZ 45 k = mz at hmay
      generalize hsm : decide (97 ≤ (45 : Int) ∧ (45 : Int) ≤ 122) = sm at hmay
      go_upto_region 11 with fail
      go_cut [10] from 63 to 83 (fun s10 wx => s10 = .bool mz ∧ Ext w wx)
      case first =>
        cases sm
        all_goals
          go_wp2_with fail
          all_goals go_meet
          all_goals refine ⟨?_, by (repeat (first | assumption | exact Ext.refl _ | refine Ext.drew ?_ | refine Ext.alloc ?_ _ | refine Ext.drewN ?_ _ | refine Ext.trans ?_ (by assumption)))⟩
          all_goals first
            | (subst hmay; simp [*]; done)
            | (subst hmay; simp [*] <;> omega)
            | (subst hmay; simp only [Value.bool.injEq]; rw [Bool.eq_iff_iff]; simp; omega)
      case rest =>
        obtain ⟨rfl, hE2⟩ := hcut
        go_upto_region 12 with fail
        have hsp1 := hsp k (by omega)
        have hks : k ≤ s.size := by omega
        have hwk : IntKind.i64.wrap ((k : Int) + 1) = (k : Int) + 1 := by rw [IntKind.wrap_i64]; omega
        have hkb : 0 ≤ (k : Int) + 1 ∧ (k : Int) + 1 ≤ (s.size : Int) := ⟨by omega, by omega⟩
        have hkt : ((k : Int) + 1).toNat = k + 1 := by omega
        rw [hmz] at hsp1
        have hss1 : (strOfNums [45]).size = 1 := strOfNums_size _
        have hq1 : ¬ (9223372036854775807 < k + 1) := by omega
        have hq2 : ¬ (9223372036854775807 < k + 1 + (s.size - (k + 1))) := by omega
        have hw1 : IntKind.i64.wrap 1 = 1 := by decide
        have hk1 : (1 : Int).toNat = 1 := rfl
        refine wp_region_noPanic ?_
        refine rg_start [(true, 0), (true, 1), (true, 2), (true, 3), (true, 7), (true, 8), (true, 9), (true, 10), (true, 13), (false, 4), (false, 5), (true, 6), (true, 11), (false, 12), (true, 14), (true, 15), (false, 16), (true, 17), (true, 18)] (fun w' => Ext w w') (by kernel_rfl) (by kernel_rfl) (fun _ _ _ _ _ h => h) (by (repeat (first | assumption | exact Ext.refl _ | refine Ext.drew ?_ | refine Ext.alloc ?_ _ | refine Ext.drewN ?_ _ | refine Ext.trans ?_ (by assumption)))) ?_
        iterate 9
          first
            | (refine rg_off (a' := ?_) rfl rfl (by rfl) ?_ ?_; rotate_left 1; (· simp only [Act.put, List.setIfInBounds_toArray, List.set_cons_zero, List.set_cons_succ]; rfl))
            | (refine rg_y (v := ?_) (a' := ?_) rfl rfl (by rfl) (fun w' hw' => ?_) ?_ ?_; rotate_left 2; (· go_simp; (try rw [hwk]); (try rw [hw1]); (try rw [if_pos hks]); (try rw [if_pos hkb]); (try rw [hkt]); (try rw [hk1]); (try rw [if_neg hq1]); (try rw [if_neg hq2]); with_reducible rfl); (· simp only [Act.put, List.setIfInBounds_toArray, List.set_cons_zero, List.set_cons_succ]; rfl))
        refine rg_value (v := ?_) (w1 := ?_) (a' := ?_) rfl rfl (by rfl) ?_ ?_ ?_ ?_
        rotate_left 3
        · go_simp; constructor <;> with_reducible rfl
        · (repeat (first | assumption | exact Ext.refl _ | refine Ext.drew ?_ | refine Ext.alloc ?_ _ | refine Ext.drewN ?_ _ | refine Ext.trans ?_ (by assumption)))
        · simp only [Act.put, List.setIfInBounds_toArray, List.set_cons_zero, List.set_cons_succ]; rfl
        refine rg_value (v := ?_) (w1 := ?_) (a' := ?_) rfl rfl (by rfl) ?_ ?_ ?_ ?_
        rotate_left 3
        · go_simp
          rw [run_convert_bytes_arg _ 32 5 Tryd.underlying32 Tryd.underlying5 _ 0 1 1 [45] rfl (fun i hi => by obtain rfl : i = 0 := (by omega); go_simp) 9 Tryd.underlying9]
          rfl
        · (repeat (first | assumption | exact Ext.refl _ | refine Ext.drew ?_ | refine Ext.alloc ?_ _ | refine Ext.drewN ?_ _ | refine Ext.trans ?_ (by assumption)))
        · simp only [Act.put, List.setIfInBounds_toArray, List.set_cons_zero, List.set_cons_succ]; rfl
        iterate 2
          first
            | (refine rg_off (a' := ?_) rfl rfl (by rfl) ?_ ?_; rotate_left 1; (· simp only [Act.put, List.setIfInBounds_toArray, List.set_cons_zero, List.set_cons_succ]; rfl))
            | (refine rg_y (v := ?_) (a' := ?_) rfl rfl (by rfl) (fun w' hw' => ?_) ?_ ?_; rotate_left 2; (· go_simp; (try rw [hwk]); (try rw [hw1]); (try rw [if_pos hks]); (try rw [if_pos hkb]); (try rw [hkt]); (try rw [hk1]); (try rw [if_neg hq1]); (try rw [if_neg hq2]); with_reducible rfl); (· simp only [Act.put, List.setIfInBounds_toArray, List.set_cons_zero, List.set_cons_succ]; rfl))
        refine rg_call (args := ?_) rfl Tryd.func14 (by kernel_rfl) rfl (by rfl) rfl rfl ?_ ?_
        rotate_left 1
        · go_simp; rfl
        first | (with_reducible refine (name_val _ mz hsp1 (by simp only [ByteArray.size_append, ByteArray.size_extract, strOfNums_size, List.length_singleton]; omega) _).mono ?_)
        rintro e w' ⟨rfl, hb⟩
        refine ⟨_, _, rfl, by (repeat (first | assumption | exact Ext.refl _ | refine Ext.drew ?_ | refine Ext.alloc ?_ _ | refine Ext.drewN ?_ _ | refine Ext.trans ?_ (by assumption))), (by simp only [Act.put, List.setIfInBounds_toArray, List.set_cons_zero, List.set_cons_succ]; rfl), ?_⟩
        iterate 2
          first
            | (refine rg_off (a' := ?_) rfl rfl (by rfl) ?_ ?_; rotate_left 1; (· simp only [Act.put, List.setIfInBounds_toArray, List.set_cons_zero, List.set_cons_succ]; rfl))
            | (refine rg_y (v := ?_) (a' := ?_) rfl rfl (by rfl) (fun w' hw' => ?_) ?_ ?_; rotate_left 2; (· go_simp; (try rw [hwk]); (try rw [hw1]); (try rw [if_pos hks]); (try rw [if_pos hkb]); (try rw [hkt]); (try rw [hk1]); (try rw [if_neg hq1]); (try rw [if_neg hq2]); with_reducible rfl); (· simp only [Act.put, List.setIfInBounds_toArray, List.set_cons_zero, List.set_cons_succ]; rfl))
        refine rg_call (args := ?_) rfl Tryd.func10 (by kernel_rfl) rfl (by rfl) rfl rfl ?_ ?_
        rotate_left 1
        · go_simp; rfl
        first | (with_reducible refine (works_any _).mono ?_)
        rintro e w' ⟨rfl, hb⟩
        refine ⟨_, _, rfl, by (repeat (first | assumption | exact Ext.refl _ | refine Ext.drew ?_ | refine Ext.alloc ?_ _ | refine Ext.drewN ?_ _ | refine Ext.trans ?_ (by assumption))), (by simp only [Act.put, List.setIfInBounds_toArray, List.set_cons_zero, List.set_cons_succ]; rfl), ?_⟩
        iterate 2
          first
            | (refine rg_off (a' := ?_) rfl rfl (by rfl) ?_ ?_; rotate_left 1; (· simp only [Act.put, List.setIfInBounds_toArray, List.set_cons_zero, List.set_cons_succ]; rfl))
            | (refine rg_y (v := ?_) (a' := ?_) rfl rfl (by rfl) (fun w' hw' => ?_) ?_ ?_; rotate_left 2; (· go_simp; (try rw [hwk]); (try rw [hw1]); (try rw [if_pos hks]); (try rw [if_pos hkb]); (try rw [hkt]); (try rw [hk1]); (try rw [if_neg hq1]); (try rw [if_neg hq2]); with_reducible rfl); (· simp only [Act.put, List.setIfInBounds_toArray, List.set_cons_zero, List.set_cons_succ]; rfl))
        refine rg_end (NoPanic.normal ?_)
        go_wp2_with fail
        go_ret
        exact ⟨rfl, by (repeat (first | assumption | exact Ext.refl _ | refine Ext.drew ?_ | refine Ext.alloc ?_ _ | refine Ext.drewN ?_ _ | refine Ext.trans ?_ (by assumption)))⟩
set_option maxHeartbeats 1000000 in
set_option maxRecDepth 100000 in
theorem names_t0y (s t : ByteArray) (z : Int) (w : World) (hm : s.size ≤ 4096 ∧ t.size ≤ 4096) (hz : -9223372036854775808 ≤ z ∧ z ≤ 9223372036854775807) (hn : nm s.data.toList = true) (h1 : 1 ≤ s.size ∧ s.size ≤ 24)
    (hpre : ∀ k : Nat, k < s.size → nm (s.extract 0 k).data.toList = decide (0 < k)) (hsp : ∀ k : Nat, k < s.size → nm (s.extract 0 k ++ strOfNums [46] ++ s.extract (k + 1) s.size).data.toList = mayZ 46 k) (ht : nm t.data.toList = false) : Calls Tryd.prog 4 #[.string s, .string t, .int .i64 z, .int .u8 46] w fun e w' => e = .returned (.bool true) ∧ Ext w w' := by
  have hss : s.size ≤ 9223372036854775807 := by omega
  have hts : t.size ≤ 9223372036854775807 := by omega
  go_enter Tryd.func4, Tryd.ntmps4
  have hX0 : Ext w w := Ext.refl w
  go_wp2_with (first | (go_at_call 14; (with_reducible refine (name_val s true hn hss _).mono ?_); rintro e w' ⟨rfl, hb⟩; have hX : Ext w w' := (by (repeat (first | assumption | exact Ext.refl _ | refine Ext.drew ?_ | refine Ext.alloc ?_ _ | refine Ext.drewN ?_ _ | refine Ext.trans ?_ (by assumption))))))
  refine (pick_any z s.size hz (by omega) _).mono ?_
  rintro e w' ⟨i, rfl, hi, -, rfl⟩
  obtain ⟨k, rfl⟩ : ∃ k : Nat, (k : Int) = i := ⟨i.toNat, by omega⟩
  have hk := hpre k (by omega)
  go_upto_region 6 with fail
  skip
  have hwr : wrap64 ((s.size : Int) + (t.size : Int)) = (s.size : Int) + (t.size : Int) := IntWalk.wrap64_in _ ⟨by omega, by omega⟩
  obtain ⟨kb, hkd⟩ : ∃ kb, decide (0 < k) = kb := ⟨_, rfl⟩
  rw [hkd] at hk
  cases kb
  all_goals
    go_upto_region 10 with (first | (go_at_call 14; (with_reducible refine (name_val (s.extract 0 k) _ hk (by simp; omega) _).mono ?_); rintro e w' ⟨rfl, hb⟩; have hX : Ext w w' := (by (repeat (first | assumption | exact Ext.refl _ | refine Ext.drew ?_ | refine Ext.alloc ?_ _ | refine Ext.drewN ?_ _ | refine Ext.trans ?_ (by assumption))))) | (go_at_call 14; (with_reducible refine (name_val ByteArray.empty false (by decide +kernel) (by decide +kernel) _).mono ?_); rintro e w' ⟨rfl, hb⟩; have hX : Ext w w' := (by (repeat (first | assumption | exact Ext.refl _ | refine Ext.drew ?_ | refine Ext.alloc ?_ _ | refine Ext.drewN ?_ _ | refine Ext.trans ?_ (by assumption))))) | (go_at_call 14; (with_reducible refine (name_val t false ht hts _).mono ?_); rintro e w' ⟨rfl, hb⟩; have hX : Ext w w' := (by (repeat (first | assumption | exact Ext.refl _ | refine Ext.drew ?_ | refine Ext.alloc ?_ _ | refine Ext.drewN ?_ _ | refine Ext.trans ?_ (by assumption))))))
    all_goals try (exfalso; rename_i hh; simp at hkd hh; omega)
    go_cut [9] from 57 to 62 (fun s9 wx => s9 = .bool (decide (97 ≤ (46 : Int) ∧ (46 : Int) ≤ 122)) ∧ Ext w wx)
    case first =>
      go_wp2_with fail
      all_goals go_meet
      all_goals refine ⟨?_, by (repeat (first | assumption | exact Ext.refl _ | refine Ext.drew ?_ | refine Ext.alloc ?_ _ | refine Ext.drewN ?_ _ | refine Ext.trans ?_ (by assumption)))⟩
      all_goals first
        | (rw [decide_eq_true (by omega)])
        | (rw [decide_eq_false (by omega)])
        | (simp [*] <;> omega)
    case rest =>
      obtain ⟨rfl, hE⟩ := hcut
      have hmay : mayZ 46 k = (decide (97 ≤ (46 : Int) ∧ (46 : Int) ≤ 122) || (decide (0 < k) && (decide (48 ≤ (46 : Int) ∧ (46 : Int) ≤ 57) || decide ((46 : Int) = 45) || decide ((46 : Int) = 46)))) := rfl
      generalize hmz : mayZ 46 k = mz at hmay
      generalize hsm : decide (97 ≤ (46 : Int) ∧ (46 : Int) ≤ 122) = sm at hmay
      go_upto_region 11 with fail
      go_cut [10] from 63 to 83 (fun s10 wx => s10 = .bool mz ∧ Ext w wx)
      case first =>
        cases sm
        all_goals
          go_wp2_with fail
          all_goals go_meet
          all_goals refine ⟨?_, by (repeat (first | assumption | exact Ext.refl _ | refine Ext.drew ?_ | refine Ext.alloc ?_ _ | refine Ext.drewN ?_ _ | refine Ext.trans ?_ (by assumption)))⟩
          all_goals first
            | (subst hmay; simp [*]; done)
            | (subst hmay; simp [*] <;> omega)
            | (subst hmay; simp only [Value.bool.injEq]; rw [Bool.eq_iff_iff]; simp; omega)
      case rest =>
        obtain ⟨rfl, hE2⟩ := hcut
        go_upto_region 12 with fail
        have hsp1 := hsp k (by omega)
        have hks : k ≤ s.size := by omega
        have hwk : IntKind.i64.wrap ((k : Int) + 1) = (k : Int) + 1 := by rw [IntKind.wrap_i64]; omega
        have hkb : 0 ≤ (k : Int) + 1 ∧ (k : Int) + 1 ≤ (s.size : Int) := ⟨by omega, by omega⟩
        have hkt : ((k : Int) + 1).toNat = k + 1 := by omega
        rw [hmz] at hsp1
        have hss1 : (strOfNums [46]).size = 1 := strOfNums_size _
        have hq1 : ¬ (9223372036854775807 < k + 1) := by omega
        have hq2 : ¬ (9223372036854775807 < k + 1 + (s.size - (k + 1))) := by omega
        have hw1 : IntKind.i64.wrap 1 = 1 := by decide
        have hk1 : (1 : Int).toNat = 1 := rfl
        refine wp_region_noPanic ?_
        refine rg_start [(true, 0), (true, 1), (true, 2), (true, 3), (true, 7), (true, 8), (true, 9), (true, 10), (true, 13), (false, 4), (false, 5), (true, 6), (true, 11), (false, 12), (true, 14), (true, 15), (false, 16), (true, 17), (true, 18)] (fun w' => Ext w w') (by kernel_rfl) (by kernel_rfl) (fun _ _ _ _ _ h => h) (by (repeat (first | assumption | exact Ext.refl _ | refine Ext.drew ?_ | refine Ext.alloc ?_ _ | refine Ext.drewN ?_ _ | refine Ext.trans ?_ (by assumption)))) ?_
        iterate 9
          first
            | (refine rg_off (a' := ?_) rfl rfl (by rfl) ?_ ?_; rotate_left 1; (· simp only [Act.put, List.setIfInBounds_toArray, List.set_cons_zero, List.set_cons_succ]; rfl))
            | (refine rg_y (v := ?_) (a' := ?_) rfl rfl (by rfl) (fun w' hw' => ?_) ?_ ?_; rotate_left 2; (· go_simp; (try rw [hwk]); (try rw [hw1]); (try rw [if_pos hks]); (try rw [if_pos hkb]); (try rw [hkt]); (try rw [hk1]); (try rw [if_neg hq1]); (try rw [if_neg hq2]); with_reducible rfl); (· simp only [Act.put, List.setIfInBounds_toArray, List.set_cons_zero, List.set_cons_succ]; rfl))
        refine rg_value (v := ?_) (w1 := ?_) (a' := ?_) rfl rfl (by rfl) ?_ ?_ ?_ ?_
        rotate_left 3
        · go_simp; constructor <;> with_reducible rfl
        · (repeat (first | assumption | exact Ext.refl _ | refine Ext.drew ?_ | refine Ext.alloc ?_ _ | refine Ext.drewN ?_ _ | refine Ext.trans ?_ (by assumption)))
        · simp only [Act.put, List.setIfInBounds_toArray, List.set_cons_zero, List.set_cons_succ]; rfl
        refine rg_value (v := ?_) (w1 := ?_) (a' := ?_) rfl rfl (by rfl) ?_ ?_ ?_ ?_
        rotate_left 3
        · go_simp
          rw [run_convert_bytes_arg _ 32 5 Tryd.underlying32 Tryd.underlying5 _ 0 1 1 [46] rfl (fun i hi => by obtain rfl : i = 0 := (by omega); go_simp) 9 Tryd.underlying9]
          rfl
        · (repeat (first | assumption | exact Ext.refl _ | refine Ext.drew ?_ | refine Ext.alloc ?_ _ | refine Ext.drewN ?_ _ | refine Ext.trans ?_ (by assumption)))
        · simp only [Act.put, List.setIfInBounds_toArray, List.set_cons_zero, List.set_cons_succ]; rfl
        iterate 2
          first
            | (refine rg_off (a' := ?_) rfl rfl (by rfl) ?_ ?_; rotate_left 1; (· simp only [Act.put, List.setIfInBounds_toArray, List.set_cons_zero, List.set_cons_succ]; rfl))
            | (refine rg_y (v := ?_) (a' := ?_) rfl rfl (by rfl) (fun w' hw' => ?_) ?_ ?_; rotate_left 2; (· go_simp; (try rw [hwk]); (try rw [hw1]); (try rw [if_pos hks]); (try rw [if_pos hkb]); (try rw [hkt]); (try rw [hk1]); (try rw [if_neg hq1]); (try rw [if_neg hq2]); with_reducible rfl); (· simp only [Act.put, List.setIfInBounds_toArray, List.set_cons_zero, List.set_cons_succ]; rfl))
        refine rg_call (args := ?_) rfl Tryd.func14 (by kernel_rfl) rfl (by rfl) rfl rfl ?_ ?_
        rotate_left 1
        · go_simp; rfl
        first | (with_reducible refine (name_val _ mz hsp1 (by simp only [ByteArray.size_append, ByteArray.size_extract, strOfNums_size, List.length_singleton]; omega) _).mono ?_)
        rintro e w' ⟨rfl, hb⟩
        refine ⟨_, _, rfl, by (repeat (first | assumption | exact Ext.refl _ | refine Ext.drew ?_ | refine Ext.alloc ?_ _ | refine Ext.drewN ?_ _ | refine Ext.trans ?_ (by assumption))), (by simp only [Act.put, List.setIfInBounds_toArray, List.set_cons_zero, List.set_cons_succ]; rfl), ?_⟩
        iterate 2
          first
            | (refine rg_off (a' := ?_) rfl rfl (by rfl) ?_ ?_; rotate_left 1; (· simp only [Act.put, List.setIfInBounds_toArray, List.set_cons_zero, List.set_cons_succ]; rfl))
            | (refine rg_y (v := ?_) (a' := ?_) rfl rfl (by rfl) (fun w' hw' => ?_) ?_ ?_; rotate_left 2; (· go_simp; (try rw [hwk]); (try rw [hw1]); (try rw [if_pos hks]); (try rw [if_pos hkb]); (try rw [hkt]); (try rw [hk1]); (try rw [if_neg hq1]); (try rw [if_neg hq2]); with_reducible rfl); (· simp only [Act.put, List.setIfInBounds_toArray, List.set_cons_zero, List.set_cons_succ]; rfl))
        refine rg_call (args := ?_) rfl Tryd.func10 (by kernel_rfl) rfl (by rfl) rfl rfl ?_ ?_
        rotate_left 1
        · go_simp; rfl
        first | (with_reducible refine (works_any _).mono ?_)
        rintro e w' ⟨rfl, hb⟩
        refine ⟨_, _, rfl, by (repeat (first | assumption | exact Ext.refl _ | refine Ext.drew ?_ | refine Ext.alloc ?_ _ | refine Ext.drewN ?_ _ | refine Ext.trans ?_ (by assumption))), (by simp only [Act.put, List.setIfInBounds_toArray, List.set_cons_zero, List.set_cons_succ]; rfl), ?_⟩
        iterate 2
          first
            | (refine rg_off (a' := ?_) rfl rfl (by rfl) ?_ ?_; rotate_left 1; (· simp only [Act.put, List.setIfInBounds_toArray, List.set_cons_zero, List.set_cons_succ]; rfl))
            | (refine rg_y (v := ?_) (a' := ?_) rfl rfl (by rfl) (fun w' hw' => ?_) ?_ ?_; rotate_left 2; (· go_simp; (try rw [hwk]); (try rw [hw1]); (try rw [if_pos hks]); (try rw [if_pos hkb]); (try rw [hkt]); (try rw [hk1]); (try rw [if_neg hq1]); (try rw [if_neg hq2]); with_reducible rfl); (· simp only [Act.put, List.setIfInBounds_toArray, List.set_cons_zero, List.set_cons_succ]; rfl))
        refine rg_end (NoPanic.normal ?_)
        go_wp2_with fail
        go_ret
        exact ⟨rfl, by (repeat (first | assumption | exact Ext.refl _ | refine Ext.drew ?_ | refine Ext.alloc ?_ _ | refine Ext.drewN ?_ _ | refine Ext.trans ?_ (by assumption)))⟩
set_option maxHeartbeats 1000000 in
set_option maxRecDepth 100000 in
theorem names_t1 (s t : ByteArray) (z c : Int) (w : World) (hm : s.size ≤ 4096 ∧ t.size ≤ 4096) (hz : -9223372036854775808 ≤ z ∧ z ≤ 9223372036854775807) (hc : 0 ≤ c ∧ c ≤ 255) (hn : nm s.data.toList = true) (h1 : 1 ≤ s.size ∧ s.size ≤ 24)
    (hpre : ∀ k : Nat, k < s.size → nm (s.extract 0 k).data.toList = decide (0 < k)) (hsp : ∀ k : Nat, k < s.size → nm (s.extract 0 k ++ strOfNums [c] ++ s.extract (k + 1) s.size).data.toList = mayZ c k) (ht : nm t.data.toList = true) (hl : s.size + t.size ≤ 24) (hst : nm (s ++ t).data.toList = true) (h45 : c ≠ 45) (h46 : c ≠ 46) : Calls Tryd.prog 4 #[.string s, .string t, .int .i64 z, .int .u8 c] w fun e w' => e = .returned (.bool true) ∧ Ext w w' := by
  have hss : s.size ≤ 9223372036854775807 := by omega
  have hts : t.size ≤ 9223372036854775807 := by omega
  go_enter Tryd.func4, Tryd.ntmps4
  have hX0 : Ext w w := Ext.refl w
  go_wp2_with (first | (go_at_call 14; (with_reducible refine (name_val s true hn hss _).mono ?_); rintro e w' ⟨rfl, hb⟩; have hX : Ext w w' := (by (repeat (first | assumption | exact Ext.refl _ | refine Ext.drew ?_ | refine Ext.alloc ?_ _ | refine Ext.drewN ?_ _ | refine Ext.trans ?_ (by assumption))))))
  refine (pick_any z s.size hz (by omega) _).mono ?_
  rintro e w' ⟨i, rfl, hi, -, rfl⟩
  obtain ⟨k, rfl⟩ : ∃ k : Nat, (k : Int) = i := ⟨i.toNat, by omega⟩
  have hk := hpre k (by omega)
  go_upto_region 6 with fail
  have hd : decide ((s.size : Int) + (t.size : Int) ≤ 24) = true := decide_eq_true (by omega)
  have hwr : wrap64 ((s.size : Int) + (t.size : Int)) = (s.size : Int) + (t.size : Int) := IntWalk.wrap64_in _ ⟨by omega, by omega⟩
  obtain ⟨kb, hkd⟩ : ∃ kb, decide (0 < k) = kb := ⟨_, rfl⟩
  rw [hkd] at hk
  cases kb
  all_goals
    go_upto_region 10 with (first | (go_at_call 14; (with_reducible refine (name_val (s.extract 0 k) _ hk (by simp; omega) _).mono ?_); rintro e w' ⟨rfl, hb⟩; have hX : Ext w w' := (by (repeat (first | assumption | exact Ext.refl _ | refine Ext.drew ?_ | refine Ext.alloc ?_ _ | refine Ext.drewN ?_ _ | refine Ext.trans ?_ (by assumption))))) | (go_at_call 14; (with_reducible refine (name_val ByteArray.empty false (by decide +kernel) (by decide +kernel) _).mono ?_); rintro e w' ⟨rfl, hb⟩; have hX : Ext w w' := (by (repeat (first | assumption | exact Ext.refl _ | refine Ext.drew ?_ | refine Ext.alloc ?_ _ | refine Ext.drewN ?_ _ | refine Ext.trans ?_ (by assumption))))) | (go_at_call 14; (with_reducible refine (name_val t true ht hts _).mono ?_); rintro e w' ⟨rfl, hb⟩; have hX : Ext w w' := (by (repeat (first | assumption | exact Ext.refl _ | refine Ext.drew ?_ | refine Ext.alloc ?_ _ | refine Ext.drewN ?_ _ | refine Ext.trans ?_ (by assumption))))) | (go_at_call 14; (with_reducible refine (name_val (s ++ t) true hst (by simp; omega) _).mono ?_); rintro e w' ⟨rfl, hb⟩; have hX : Ext w w' := (by (repeat (first | assumption | exact Ext.refl _ | refine Ext.drew ?_ | refine Ext.alloc ?_ _ | refine Ext.drewN ?_ _ | refine Ext.trans ?_ (by assumption))))))
    all_goals try (exfalso; rename_i hh; simp at hkd hh; omega)
    go_cut [9] from 57 to 62 (fun s9 wx => s9 = .bool (decide (97 ≤ c ∧ c ≤ 122)) ∧ Ext w wx)
    case first =>
      go_wp2_with fail
      all_goals go_meet
      all_goals refine ⟨?_, by (repeat (first | assumption | exact Ext.refl _ | refine Ext.drew ?_ | refine Ext.alloc ?_ _ | refine Ext.drewN ?_ _ | refine Ext.trans ?_ (by assumption)))⟩
      all_goals first
        | (rw [decide_eq_true (by omega)])
        | (rw [decide_eq_false (by omega)])
        | (simp [*] <;> omega)
    case rest =>
      obtain ⟨rfl, hE⟩ := hcut
      have hmay : mayZ c k = (decide (97 ≤ c ∧ c ≤ 122) || (decide (0 < k) && (decide (48 ≤ c ∧ c ≤ 57) || decide (c = 45) || decide (c = 46)))) := rfl
      generalize hmz : mayZ c k = mz at hmay
      generalize hsm : decide (97 ≤ c ∧ c ≤ 122) = sm at hmay
      go_upto_region 11 with fail
      go_cut [10] from 63 to 83 (fun s10 wx => s10 = .bool mz ∧ Ext w wx)
      case first =>
        cases sm
        all_goals
          go_wp2_with fail
          all_goals go_meet
          all_goals refine ⟨?_, by (repeat (first | assumption | exact Ext.refl _ | refine Ext.drew ?_ | refine Ext.alloc ?_ _ | refine Ext.drewN ?_ _ | refine Ext.trans ?_ (by assumption)))⟩
          all_goals first
            | (subst hmay; simp [*]; done)
            | (subst hmay; simp [*] <;> omega)
            | (subst hmay; simp only [Value.bool.injEq]; rw [Bool.eq_iff_iff]; simp; omega)
      case rest =>
        obtain ⟨rfl, hE2⟩ := hcut
        go_upto_region 12 with fail
        have hsp1 := hsp k (by omega)
        have hks : k ≤ s.size := by omega
        have hwk : IntKind.i64.wrap ((k : Int) + 1) = (k : Int) + 1 := by rw [IntKind.wrap_i64]; omega
        have hkb : 0 ≤ (k : Int) + 1 ∧ (k : Int) + 1 ≤ (s.size : Int) := ⟨by omega, by omega⟩
        have hkt : ((k : Int) + 1).toNat = k + 1 := by omega
        rw [hmz] at hsp1
        have hss1 : (strOfNums [c]).size = 1 := strOfNums_size _
        have hq1 : ¬ (9223372036854775807 < k + 1) := by omega
        have hq2 : ¬ (9223372036854775807 < k + 1 + (s.size - (k + 1))) := by omega
        have hw1 : IntKind.i64.wrap 1 = 1 := by decide
        have hk1 : (1 : Int).toNat = 1 := rfl
        refine wp_region_noPanic ?_
        refine rg_start [(true, 0), (true, 1), (true, 2), (true, 3), (true, 7), (true, 8), (true, 9), (true, 10), (true, 13), (false, 4), (false, 5), (true, 6), (true, 11), (false, 12), (true, 14), (true, 15), (false, 16), (true, 17), (true, 18)] (fun w' => Ext w w') (by kernel_rfl) (by kernel_rfl) (fun _ _ _ _ _ h => h) (by (repeat (first | assumption | exact Ext.refl _ | refine Ext.drew ?_ | refine Ext.alloc ?_ _ | refine Ext.drewN ?_ _ | refine Ext.trans ?_ (by assumption)))) ?_
        iterate 9
          first
            | (refine rg_off (a' := ?_) rfl rfl (by rfl) ?_ ?_; rotate_left 1; (· simp only [Act.put, List.setIfInBounds_toArray, List.set_cons_zero, List.set_cons_succ]; rfl))
            | (refine rg_y (v := ?_) (a' := ?_) rfl rfl (by rfl) (fun w' hw' => ?_) ?_ ?_; rotate_left 2; (· go_simp; (try rw [hwk]); (try rw [hw1]); (try rw [if_pos hks]); (try rw [if_pos hkb]); (try rw [hkt]); (try rw [hk1]); (try rw [if_neg hq1]); (try rw [if_neg hq2]); with_reducible rfl); (· simp only [Act.put, List.setIfInBounds_toArray, List.set_cons_zero, List.set_cons_succ]; rfl))
        refine rg_value (v := ?_) (w1 := ?_) (a' := ?_) rfl rfl (by rfl) ?_ ?_ ?_ ?_
        rotate_left 3
        · go_simp; constructor <;> with_reducible rfl
        · (repeat (first | assumption | exact Ext.refl _ | refine Ext.drew ?_ | refine Ext.alloc ?_ _ | refine Ext.drewN ?_ _ | refine Ext.trans ?_ (by assumption)))
        · simp only [Act.put, List.setIfInBounds_toArray, List.set_cons_zero, List.set_cons_succ]; rfl
        refine rg_value (v := ?_) (w1 := ?_) (a' := ?_) rfl rfl (by rfl) ?_ ?_ ?_ ?_
        rotate_left 3
        · go_simp
          rw [run_convert_bytes_arg _ 32 5 Tryd.underlying32 Tryd.underlying5 _ 0 1 1 [c] rfl (fun i hi => by obtain rfl : i = 0 := (by omega); go_simp) 9 Tryd.underlying9]
          rfl
        · (repeat (first | assumption | exact Ext.refl _ | refine Ext.drew ?_ | refine Ext.alloc ?_ _ | refine Ext.drewN ?_ _ | refine Ext.trans ?_ (by assumption)))
        · simp only [Act.put, List.setIfInBounds_toArray, List.set_cons_zero, List.set_cons_succ]; rfl
        iterate 2
          first
            | (refine rg_off (a' := ?_) rfl rfl (by rfl) ?_ ?_; rotate_left 1; (· simp only [Act.put, List.setIfInBounds_toArray, List.set_cons_zero, List.set_cons_succ]; rfl))
            | (refine rg_y (v := ?_) (a' := ?_) rfl rfl (by rfl) (fun w' hw' => ?_) ?_ ?_; rotate_left 2; (· go_simp; (try rw [hwk]); (try rw [hw1]); (try rw [if_pos hks]); (try rw [if_pos hkb]); (try rw [hkt]); (try rw [hk1]); (try rw [if_neg hq1]); (try rw [if_neg hq2]); with_reducible rfl); (· simp only [Act.put, List.setIfInBounds_toArray, List.set_cons_zero, List.set_cons_succ]; rfl))
        refine rg_call (args := ?_) rfl Tryd.func14 (by kernel_rfl) rfl (by rfl) rfl rfl ?_ ?_
        rotate_left 1
        · go_simp; rfl
        first | (with_reducible refine (name_val _ mz hsp1 (by simp only [ByteArray.size_append, ByteArray.size_extract, strOfNums_size, List.length_singleton]; omega) _).mono ?_)
        rintro e w' ⟨rfl, hb⟩
        refine ⟨_, _, rfl, by (repeat (first | assumption | exact Ext.refl _ | refine Ext.drew ?_ | refine Ext.alloc ?_ _ | refine Ext.drewN ?_ _ | refine Ext.trans ?_ (by assumption))), (by simp only [Act.put, List.setIfInBounds_toArray, List.set_cons_zero, List.set_cons_succ]; rfl), ?_⟩
        iterate 2
          first
            | (refine rg_off (a' := ?_) rfl rfl (by rfl) ?_ ?_; rotate_left 1; (· simp only [Act.put, List.setIfInBounds_toArray, List.set_cons_zero, List.set_cons_succ]; rfl))
            | (refine rg_y (v := ?_) (a' := ?_) rfl rfl (by rfl) (fun w' hw' => ?_) ?_ ?_; rotate_left 2; (· go_simp; (try rw [hwk]); (try rw [hw1]); (try rw [if_pos hks]); (try rw [if_pos hkb]); (try rw [hkt]); (try rw [hk1]); (try rw [if_neg hq1]); (try rw [if_neg hq2]); with_reducible rfl); (· simp only [Act.put, List.setIfInBounds_toArray, List.set_cons_zero, List.set_cons_succ]; rfl))
        refine rg_call (args := ?_) rfl Tryd.func10 (by kernel_rfl) rfl (by rfl) rfl rfl ?_ ?_
        rotate_left 1
        · go_simp; rfl
        first | (with_reducible refine (works_any _).mono ?_)
        rintro e w' ⟨rfl, hb⟩
        refine ⟨_, _, rfl, by (repeat (first | assumption | exact Ext.refl _ | refine Ext.drew ?_ | refine Ext.alloc ?_ _ | refine Ext.drewN ?_ _ | refine Ext.trans ?_ (by assumption))), (by simp only [Act.put, List.setIfInBounds_toArray, List.set_cons_zero, List.set_cons_succ]; rfl), ?_⟩
        iterate 2
          first
            | (refine rg_off (a' := ?_) rfl rfl (by rfl) ?_ ?_; rotate_left 1; (· simp only [Act.put, List.setIfInBounds_toArray, List.set_cons_zero, List.set_cons_succ]; rfl))
            | (refine rg_y (v := ?_) (a' := ?_) rfl rfl (by rfl) (fun w' hw' => ?_) ?_ ?_; rotate_left 2; (· go_simp; (try rw [hwk]); (try rw [hw1]); (try rw [if_pos hks]); (try rw [if_pos hkb]); (try rw [hkt]); (try rw [hk1]); (try rw [if_neg hq1]); (try rw [if_neg hq2]); with_reducible rfl); (· simp only [Act.put, List.setIfInBounds_toArray, List.set_cons_zero, List.set_cons_succ]; rfl))
        refine rg_end (NoPanic.normal ?_)
        go_wp2_with fail
        go_ret
        exact ⟨rfl, by (repeat (first | assumption | exact Ext.refl _ | refine Ext.drew ?_ | refine Ext.alloc ?_ _ | refine Ext.drewN ?_ _ | refine Ext.trans ?_ (by assumption)))⟩
set_option maxHeartbeats 1000000 in
set_option maxRecDepth 100000 in
theorem names_t1x (s t : ByteArray) (z : Int) (w : World) (hm : s.size ≤ 4096 ∧ t.size ≤ 4096) (hz : -9223372036854775808 ≤ z ∧ z ≤ 9223372036854775807) (hn : nm s.data.toList = true) (h1 : 1 ≤ s.size ∧ s.size ≤ 24)
    (hpre : ∀ k : Nat, k < s.size → nm (s.extract 0 k).data.toList = decide (0 < k)) (hsp : ∀ k : Nat, k < s.size → nm (s.extract 0 k ++ strOfNums [45] ++ s.extract (k + 1) s.size).data.toList = mayZ 45 k) (ht : nm t.data.toList = true) (hl : s.size + t.size ≤ 24) (hst : nm (s ++ t).data.toList = true) : Calls Tryd.prog 4 #[.string s, .string t, .int .i64 z, .int .u8 45] w fun e w' => e = .returned (.bool true) ∧ Ext w w' := by
  have hss : s.size ≤ 9223372036854775807 := by omega
  have hts : t.size ≤ 9223372036854775807 := by omega
  go_enter Tryd.func4, Tryd.ntmps4
  have hX0 : Ext w w := Ext.refl w
  go_wp2_with (first | (go_at_call 14; (with_reducible refine (name_val s true hn hss _).mono ?_); rintro e w' ⟨rfl, hb⟩; have hX : Ext w w' := (by (repeat (first | assumption | exact Ext.refl _ | refine Ext.drew ?_ | refine Ext.alloc ?_ _ | refine Ext.drewN ?_ _ | refine Ext.trans ?_ (by assumption))))))
  refine (pick_any z s.size hz (by omega) _).mono ?_
  rintro e w' ⟨i, rfl, hi, -, rfl⟩
  obtain ⟨k, rfl⟩ : ∃ k : Nat, (k : Int) = i := ⟨i.toNat, by omega⟩
  have hk := hpre k (by omega)
  go_upto_region 6 with fail
  have hd : decide ((s.size : Int) + (t.size : Int) ≤ 24) = true := decide_eq_true (by omega)
  have hwr : wrap64 ((s.size : Int) + (t.size : Int)) = (s.size : Int) + (t.size : Int) := IntWalk.wrap64_in _ ⟨by omega, by omega⟩
  obtain ⟨kb, hkd⟩ : ∃ kb, decide (0 < k) = kb := ⟨_, rfl⟩
  rw [hkd] at hk
  cases kb
  all_goals
    go_upto_region 10 with (first | (go_at_call 14; (with_reducible refine (name_val (s.extract 0 k) _ hk (by simp; omega) _).mono ?_); rintro e w' ⟨rfl, hb⟩; have hX : Ext w w' := (by (repeat (first | assumption | exact Ext.refl _ | refine Ext.drew ?_ | refine Ext.alloc ?_ _ | refine Ext.drewN ?_ _ | refine Ext.trans ?_ (by assumption))))) | (go_at_call 14; (with_reducible refine (name_val ByteArray.empty false (by decide +kernel) (by decide +kernel) _).mono ?_); rintro e w' ⟨rfl, hb⟩; have hX : Ext w w' := (by (repeat (first | assumption | exact Ext.refl _ | refine Ext.drew ?_ | refine Ext.alloc ?_ _ | refine Ext.drewN ?_ _ | refine Ext.trans ?_ (by assumption))))) | (go_at_call 14; (with_reducible refine (name_val t true ht hts _).mono ?_); rintro e w' ⟨rfl, hb⟩; have hX : Ext w w' := (by (repeat (first | assumption | exact Ext.refl _ | refine Ext.drew ?_ | refine Ext.alloc ?_ _ | refine Ext.drewN ?_ _ | refine Ext.trans ?_ (by assumption))))) | (go_at_call 14; (with_reducible refine (name_val (s ++ t) true hst (by simp; omega) _).mono ?_); rintro e w' ⟨rfl, hb⟩; have hX : Ext w w' := (by (repeat (first | assumption | exact Ext.refl _ | refine Ext.drew ?_ | refine Ext.alloc ?_ _ | refine Ext.drewN ?_ _ | refine Ext.trans ?_ (by assumption))))))
    all_goals try (exfalso; rename_i hh; simp at hkd hh; omega)
    go_cut [9] from 57 to 62 (fun s9 wx => s9 = .bool (decide (97 ≤ (45 : Int) ∧ (45 : Int) ≤ 122)) ∧ Ext w wx)
    case first =>
      go_wp2_with fail
      all_goals go_meet
      all_goals refine ⟨?_, by (repeat (first | assumption | exact Ext.refl _ | refine Ext.drew ?_ | refine Ext.alloc ?_ _ | refine Ext.drewN ?_ _ | refine Ext.trans ?_ (by assumption)))⟩
      all_goals first
        | (rw [decide_eq_true (by omega)])
        | (rw [decide_eq_false (by omega)])
        | (simp [*] <;> omega)
    case rest =>
      obtain ⟨rfl, hE⟩ := hcut
      have hmay : mayZ 45 k = (decide (97 ≤ (45 : Int) ∧ (45 : Int) ≤ 122) || (decide (0 < k) && (decide (48 ≤ (45 : Int) ∧ (45 : Int) ≤ 57) || decide ((45 : Int) = 45) || decide ((45 : Int) = 46)))) := rfl
      generalize hmz : mayZ 45 k = mz at hmay
      generalize hsm : decide (97 ≤ (45 : Int) ∧ (45 : Int) ≤ 122) = sm at hmay
      go_upto_region 11 with fail
      go_cut [10] from 63 to 83 (fun s10 wx => s10 = .bool mz ∧ Ext w wx)
      case first =>
        cases sm
        all_goals
          go_wp2_with fail
          all_goals go_meet
          all_goals refine ⟨?_, by (repeat (first | assumption | exact Ext.refl _ | refine Ext.drew ?_ | refine Ext.alloc ?_ _ | refine Ext.drewN ?_ _ | refine Ext.trans ?_ (by assumption)))⟩
          all_goals first
            | (subst hmay; simp [*]; done)
            | (subst hmay; simp [*] <;> omega)
            | (subst hmay; simp only [Value.bool.injEq]; rw [Bool.eq_iff_iff]; simp; omega)
      case rest =>
        obtain ⟨rfl, hE2⟩ := hcut
        go_upto_region 12 with fail
        have hsp1 := hsp k (by omega)
        have hks : k ≤ s.size := by omega
        have hwk : IntKind.i64.wrap ((k : Int) + 1) = (k : Int) + 1 := by rw [IntKind.wrap_i64]; omega
        have hkb : 0 ≤ (k : Int) + 1 ∧ (k : Int) + 1 ≤ (s.size : Int) := ⟨by omega, by omega⟩
        have hkt : ((k : Int) + 1).toNat = k + 1 := by omega
        rw [hmz] at hsp1
        have hss1 : (strOfNums [45]).size = 1 := strOfNums_size _
        have hq1 : ¬ (9223372036854775807 < k + 1) := by omega
        have hq2 : ¬ (9223372036854775807 < k + 1 + (s.size - (k + 1))) := by omega
        have hw1 : IntKind.i64.wrap 1 = 1 := by decide
        have hk1 : (1 : Int).toNat = 1 := rfl
        refine wp_region_noPanic ?_
        refine rg_start [(true, 0), (true, 1), (true, 2), (true, 3), (true, 7), (true, 8), (true, 9), (true, 10), (true, 13), (false, 4), (false, 5), (true, 6), (true, 11), (false, 12), (true, 14), (true, 15), (false, 16), (true, 17), (true, 18)] (fun w' => Ext w w') (by kernel_rfl) (by kernel_rfl) (fun _ _ _ _ _ h => h) (by (repeat (first | assumption | exact Ext.refl _ | refine Ext.drew ?_ | refine Ext.alloc ?_ _ | refine Ext.drewN ?_ _ | refine Ext.trans ?_ (by assumption)))) ?_
        iterate 9
          first
            | (refine rg_off (a' := ?_) rfl rfl (by rfl) ?_ ?_; rotate_left 1; (· simp only [Act.put, List.setIfInBounds_toArray, List.set_cons_zero, List.set_cons_succ]; rfl))
            | (refine rg_y (v := ?_) (a' := ?_) rfl rfl (by rfl) (fun w' hw' => ?_) ?_ ?_; rotate_left 2; (· go_simp; (try rw [hwk]); (try rw [hw1]); (try rw [if_pos hks]); (try rw [if_pos hkb]); (try rw [hkt]); (try rw [hk1]); (try rw [if_neg hq1]); (try rw [if_neg hq2]); with_reducible rfl); (· simp only [Act.put, List.setIfInBounds_toArray, List.set_cons_zero, List.set_cons_succ]; rfl))
        refine rg_value (v := ?_) (w1 := ?_) (a' := ?_) rfl rfl (by rfl) ?_ ?_ ?_ ?_
        rotate_left 3
        · go_simp; constructor <;> with_reducible rfl
        · (repeat (first | assumption | exact Ext.refl _ | refine Ext.drew ?_ | refine Ext.alloc ?_ _ | refine Ext.drewN ?_ _ | refine Ext.trans ?_ (by assumption)))
        · simp only [Act.put, List.setIfInBounds_toArray, List.set_cons_zero, List.set_cons_succ]; rfl
        refine rg_value (v := ?_) (w1 := ?_) (a' := ?_) rfl rfl (by rfl) ?_ ?_ ?_ ?_
        rotate_left 3
        · go_simp
          rw [run_convert_bytes_arg _ 32 5 Tryd.underlying32 Tryd.underlying5 _ 0 1 1 [45] rfl (fun i hi => by obtain rfl : i = 0 := (by omega); go_simp) 9 Tryd.underlying9]
          rfl
        · (repeat (first | assumption | exact Ext.refl _ | refine Ext.drew ?_ | refine Ext.alloc ?_ _ | refine Ext.drewN ?_ _ | refine Ext.trans ?_ (by assumption)))
        · simp only [Act.put, List.setIfInBounds_toArray, List.set_cons_zero, List.set_cons_succ]; rfl
        iterate 2
          first
            | (refine rg_off (a' := ?_) rfl rfl (by rfl) ?_ ?_; rotate_left 1; (· simp only [Act.put, List.setIfInBounds_toArray, List.set_cons_zero, List.set_cons_succ]; rfl))
            | (refine rg_y (v := ?_) (a' := ?_) rfl rfl (by rfl) (fun w' hw' => ?_) ?_ ?_; rotate_left 2; (· go_simp; (try rw [hwk]); (try rw [hw1]); (try rw [if_pos hks]); (try rw [if_pos hkb]); (try rw [hkt]); (try rw [hk1]); (try rw [if_neg hq1]); (try rw [if_neg hq2]); with_reducible rfl); (· simp only [Act.put, List.setIfInBounds_toArray, List.set_cons_zero, List.set_cons_succ]; rfl))
        refine rg_call (args := ?_) rfl Tryd.func14 (by kernel_rfl) rfl (by rfl) rfl rfl ?_ ?_
        rotate_left 1
        · go_simp; rfl
        first | (with_reducible refine (name_val _ mz hsp1 (by simp only [ByteArray.size_append, ByteArray.size_extract, strOfNums_size, List.length_singleton]; omega) _).mono ?_)
        rintro e w' ⟨rfl, hb⟩
        refine ⟨_, _, rfl, by (repeat (first | assumption | exact Ext.refl _ | refine Ext.drew ?_ | refine Ext.alloc ?_ _ | refine Ext.drewN ?_ _ | refine Ext.trans ?_ (by assumption))), (by simp only [Act.put, List.setIfInBounds_toArray, List.set_cons_zero, List.set_cons_succ]; rfl), ?_⟩
        iterate 2
          first
            | (refine rg_off (a' := ?_) rfl rfl (by rfl) ?_ ?_; rotate_left 1; (· simp only [Act.put, List.setIfInBounds_toArray, List.set_cons_zero, List.set_cons_succ]; rfl))
            | (refine rg_y (v := ?_) (a' := ?_) rfl rfl (by rfl) (fun w' hw' => ?_) ?_ ?_; rotate_left 2; (· go_simp; (try rw [hwk]); (try rw [hw1]); (try rw [if_pos hks]); (try rw [if_pos hkb]); (try rw [hkt]); (try rw [hk1]); (try rw [if_neg hq1]); (try rw [if_neg hq2]); with_reducible rfl); (· simp only [Act.put, List.setIfInBounds_toArray, List.set_cons_zero, List.set_cons_succ]; rfl))
        refine rg_call (args := ?_) rfl Tryd.func10 (by kernel_rfl) rfl (by rfl) rfl rfl ?_ ?_
        rotate_left 1
        · go_simp; rfl
        first | (with_reducible refine (works_any _).mono ?_)
        rintro e w' ⟨rfl, hb⟩
        refine ⟨_, _, rfl, by (repeat (first | assumption | exact Ext.refl _ | refine Ext.drew ?_ | refine Ext.alloc ?_ _ | refine Ext.drewN ?_ _ | refine Ext.trans ?_ (by assumption))), (by simp only [Act.put, List.setIfInBounds_toArray, List.set_cons_zero, List.set_cons_succ]; rfl), ?_⟩
        iterate 2
          first
            | (refine rg_off (a' := ?_) rfl rfl (by rfl) ?_ ?_; rotate_left 1; (· simp only [Act.put, List.setIfInBounds_toArray, List.set_cons_zero, List.set_cons_succ]; rfl))
            | (refine rg_y (v := ?_) (a' := ?_) rfl rfl (by rfl) (fun w' hw' => ?_) ?_ ?_; rotate_left 2; (· go_simp; (try rw [hwk]); (try rw [hw1]); (try rw [if_pos hks]); (try rw [if_pos hkb]); (try rw [hkt]); (try rw [hk1]); (try rw [if_neg hq1]); (try rw [if_neg hq2]); with_reducible rfl); (· simp only [Act.put, List.setIfInBounds_toArray, List.set_cons_zero, List.set_cons_succ]; rfl))
        refine rg_end (NoPanic.normal ?_)
        go_wp2_with fail
        go_ret
        exact ⟨rfl, by (repeat (first | assumption | exact Ext.refl _ | refine Ext.drew ?_ | refine Ext.alloc ?_ _ | refine Ext.drewN ?_ _ | refine Ext.trans ?_ (by assumption)))⟩
set_option maxHeartbeats 1000000 in
set_option maxRecDepth 100000 in
theorem names_t1y (s t : ByteArray) (z : Int) (w : World) (hm : s.size ≤ 4096 ∧ t.size ≤ 4096) (hz : -9223372036854775808 ≤ z ∧ z ≤ 9223372036854775807) (hn : nm s.data.toList = true) (h1 : 1 ≤ s.size ∧ s.size ≤ 24)
    (hpre : ∀ k : Nat, k < s.size → nm (s.extract 0 k).data.toList = decide (0 < k)) (hsp : ∀ k : Nat, k < s.size → nm (s.extract 0 k ++ strOfNums [46] ++ s.extract (k + 1) s.size).data.toList = mayZ 46 k) (ht : nm t.data.toList = true) (hl : s.size + t.size ≤ 24) (hst : nm (s ++ t).data.toList = true) : Calls Tryd.prog 4 #[.string s, .string t, .int .i64 z, .int .u8 46] w fun e w' => e = .returned (.bool true) ∧ Ext w w' := by
  have hss : s.size ≤ 9223372036854775807 := by omega
  have hts : t.size ≤ 9223372036854775807 := by omega
  go_enter Tryd.func4, Tryd.ntmps4
  have hX0 : Ext w w := Ext.refl w
  go_wp2_with (first | (go_at_call 14; (with_reducible refine (name_val s true hn hss _).mono ?_); rintro e w' ⟨rfl, hb⟩; have hX : Ext w w' := (by (repeat (first | assumption | exact Ext.refl _ | refine Ext.drew ?_ | refine Ext.alloc ?_ _ | refine Ext.drewN ?_ _ | refine Ext.trans ?_ (by assumption))))))
  refine (pick_any z s.size hz (by omega) _).mono ?_
  rintro e w' ⟨i, rfl, hi, -, rfl⟩
  obtain ⟨k, rfl⟩ : ∃ k : Nat, (k : Int) = i := ⟨i.toNat, by omega⟩
  have hk := hpre k (by omega)
  go_upto_region 6 with fail
  have hd : decide ((s.size : Int) + (t.size : Int) ≤ 24) = true := decide_eq_true (by omega)
  have hwr : wrap64 ((s.size : Int) + (t.size : Int)) = (s.size : Int) + (t.size : Int) := IntWalk.wrap64_in _ ⟨by omega, by omega⟩
  obtain ⟨kb, hkd⟩ : ∃ kb, decide (0 < k) = kb := ⟨_, rfl⟩
  rw [hkd] at hk
  cases kb
  all_goals
    go_upto_region 10 with (first | (go_at_call 14; (with_reducible refine (name_val (s.extract 0 k) _ hk (by simp; omega) _).mono ?_); rintro e w' ⟨rfl, hb⟩; have hX : Ext w w' := (by (repeat (first | assumption | exact Ext.refl _ | refine Ext.drew ?_ | refine Ext.alloc ?_ _ | refine Ext.drewN ?_ _ | refine Ext.trans ?_ (by assumption))))) | (go_at_call 14; (with_reducible refine (name_val ByteArray.empty false (by decide +kernel) (by decide +kernel) _).mono ?_); rintro e w' ⟨rfl, hb⟩; have hX : Ext w w' := (by (repeat (first | assumption | exact Ext.refl _ | refine Ext.drew ?_ | refine Ext.alloc ?_ _ | refine Ext.drewN ?_ _ | refine Ext.trans ?_ (by assumption))))) | (go_at_call 14; (with_reducible refine (name_val t true ht hts _).mono ?_); rintro e w' ⟨rfl, hb⟩; have hX : Ext w w' := (by (repeat (first | assumption | exact Ext.refl _ | refine Ext.drew ?_ | refine Ext.alloc ?_ _ | refine Ext.drewN ?_ _ | refine Ext.trans ?_ (by assumption))))) | (go_at_call 14; (with_reducible refine (name_val (s ++ t) true hst (by simp; omega) _).mono ?_); rintro e w' ⟨rfl, hb⟩; have hX : Ext w w' := (by (repeat (first | assumption | exact Ext.refl _ | refine Ext.drew ?_ | refine Ext.alloc ?_ _ | refine Ext.drewN ?_ _ | refine Ext.trans ?_ (by assumption))))))
    all_goals try (exfalso; rename_i hh; simp at hkd hh; omega)
    go_cut [9] from 57 to 62 (fun s9 wx => s9 = .bool (decide (97 ≤ (46 : Int) ∧ (46 : Int) ≤ 122)) ∧ Ext w wx)
    case first =>
      go_wp2_with fail
      all_goals go_meet
      all_goals refine ⟨?_, by (repeat (first | assumption | exact Ext.refl _ | refine Ext.drew ?_ | refine Ext.alloc ?_ _ | refine Ext.drewN ?_ _ | refine Ext.trans ?_ (by assumption)))⟩
      all_goals first
        | (rw [decide_eq_true (by omega)])
        | (rw [decide_eq_false (by omega)])
        | (simp [*] <;> omega)
    case rest =>
      obtain ⟨rfl, hE⟩ := hcut
      have hmay : mayZ 46 k = (decide (97 ≤ (46 : Int) ∧ (46 : Int) ≤ 122) || (decide (0 < k) && (decide (48 ≤ (46 : Int) ∧ (46 : Int) ≤ 57) || decide ((46 : Int) = 45) || decide ((46 : Int) = 46)))) := rfl
      generalize hmz : mayZ 46 k = mz at hmay
      generalize hsm : decide (97 ≤ (46 : Int) ∧ (46 : Int) ≤ 122) = sm at hmay
      go_upto_region 11 with fail
      go_cut [10] from 63 to 83 (fun s10 wx => s10 = .bool mz ∧ Ext w wx)
      case first =>
        cases sm
        all_goals
          go_wp2_with fail
          all_goals go_meet
          all_goals refine ⟨?_, by (repeat (first | assumption | exact Ext.refl _ | refine Ext.drew ?_ | refine Ext.alloc ?_ _ | refine Ext.drewN ?_ _ | refine Ext.trans ?_ (by assumption)))⟩
          all_goals first
            | (subst hmay; simp [*]; done)
            | (subst hmay; simp [*] <;> omega)
            | (subst hmay; simp only [Value.bool.injEq]; rw [Bool.eq_iff_iff]; simp; omega)
      case rest =>
        obtain ⟨rfl, hE2⟩ := hcut
        go_upto_region 12 with fail
        have hsp1 := hsp k (by omega)
        have hks : k ≤ s.size := by omega
        have hwk : IntKind.i64.wrap ((k : Int) + 1) = (k : Int) + 1 := by rw [IntKind.wrap_i64]; omega
        have hkb : 0 ≤ (k : Int) + 1 ∧ (k : Int) + 1 ≤ (s.size : Int) := ⟨by omega, by omega⟩
        have hkt : ((k : Int) + 1).toNat = k + 1 := by omega
        rw [hmz] at hsp1
        have hss1 : (strOfNums [46]).size = 1 := strOfNums_size _
        have hq1 : ¬ (9223372036854775807 < k + 1) := by omega
        have hq2 : ¬ (9223372036854775807 < k + 1 + (s.size - (k + 1))) := by omega
        have hw1 : IntKind.i64.wrap 1 = 1 := by decide
        have hk1 : (1 : Int).toNat = 1 := rfl
        refine wp_region_noPanic ?_
        refine rg_start [(true, 0), (true, 1), (true, 2), (true, 3), (true, 7), (true, 8), (true, 9), (true, 10), (true, 13), (false, 4), (false, 5), (true, 6), (true, 11), (false, 12), (true, 14), (true, 15), (false, 16), (true, 17), (true, 18)] (fun w' => Ext w w') (by kernel_rfl) (by kernel_rfl) (fun _ _ _ _ _ h => h) (by (repeat (first | assumption | exact Ext.refl _ | refine Ext.drew ?_ | refine Ext.alloc ?_ _ | refine Ext.drewN ?_ _ | refine Ext.trans ?_ (by assumption)))) ?_
        iterate 9
          first
            | (refine rg_off (a' := ?_) rfl rfl (by rfl) ?_ ?_; rotate_left 1; (· simp only [Act.put, List.setIfInBounds_toArray, List.set_cons_zero, List.set_cons_succ]; rfl))
            | (refine rg_y (v := ?_) (a' := ?_) rfl rfl (by rfl) (fun w' hw' => ?_) ?_ ?_; rotate_left 2; (· go_simp; (try rw [hwk]); (try rw [hw1]); (try rw [if_pos hks]); (try rw [if_pos hkb]); (try rw [hkt]); (try rw [hk1]); (try rw [if_neg hq1]); (try rw [if_neg hq2]); with_reducible rfl); (· simp only [Act.put, List.setIfInBounds_toArray, List.set_cons_zero, List.set_cons_succ]; rfl))
        refine rg_value (v := ?_) (w1 := ?_) (a' := ?_) rfl rfl (by rfl) ?_ ?_ ?_ ?_
        rotate_left 3
        · go_simp; constructor <;> with_reducible rfl
        · (repeat (first | assumption | exact Ext.refl _ | refine Ext.drew ?_ | refine Ext.alloc ?_ _ | refine Ext.drewN ?_ _ | refine Ext.trans ?_ (by assumption)))
        · simp only [Act.put, List.setIfInBounds_toArray, List.set_cons_zero, List.set_cons_succ]; rfl
        refine rg_value (v := ?_) (w1 := ?_) (a' := ?_) rfl rfl (by rfl) ?_ ?_ ?_ ?_
        rotate_left 3
        · go_simp
          rw [run_convert_bytes_arg _ 32 5 Tryd.underlying32 Tryd.underlying5 _ 0 1 1 [46] rfl (fun i hi => by obtain rfl : i = 0 := (by omega); go_simp) 9 Tryd.underlying9]
          rfl
        · (repeat (first | assumption | exact Ext.refl _ | refine Ext.drew ?_ | refine Ext.alloc ?_ _ | refine Ext.drewN ?_ _ | refine Ext.trans ?_ (by assumption)))
        · simp only [Act.put, List.setIfInBounds_toArray, List.set_cons_zero, List.set_cons_succ]; rfl
        iterate 2
          first
            | (refine rg_off (a' := ?_) rfl rfl (by rfl) ?_ ?_; rotate_left 1; (· simp only [Act.put, List.setIfInBounds_toArray, List.set_cons_zero, List.set_cons_succ]; rfl))
            | (refine rg_y (v := ?_) (a' := ?_) rfl rfl (by rfl) (fun w' hw' => ?_) ?_ ?_; rotate_left 2; (· go_simp; (try rw [hwk]); (try rw [hw1]); (try rw [if_pos hks]); (try rw [if_pos hkb]); (try rw [hkt]); (try rw [hk1]); (try rw [if_neg hq1]); (try rw [if_neg hq2]); with_reducible rfl); (· simp only [Act.put, List.setIfInBounds_toArray, List.set_cons_zero, List.set_cons_succ]; rfl))
        refine rg_call (args := ?_) rfl Tryd.func14 (by kernel_rfl) rfl (by rfl) rfl rfl ?_ ?_
        rotate_left 1
        · go_simp; rfl
        first | (with_reducible refine (name_val _ mz hsp1 (by simp only [ByteArray.size_append, ByteArray.size_extract, strOfNums_size, List.length_singleton]; omega) _).mono ?_)
        rintro e w' ⟨rfl, hb⟩
        refine ⟨_, _, rfl, by (repeat (first | assumption | exact Ext.refl _ | refine Ext.drew ?_ | refine Ext.alloc ?_ _ | refine Ext.drewN ?_ _ | refine Ext.trans ?_ (by assumption))), (by simp only [Act.put, List.setIfInBounds_toArray, List.set_cons_zero, List.set_cons_succ]; rfl), ?_⟩
        iterate 2
          first
            | (refine rg_off (a' := ?_) rfl rfl (by rfl) ?_ ?_; rotate_left 1; (· simp only [Act.put, List.setIfInBounds_toArray, List.set_cons_zero, List.set_cons_succ]; rfl))
            | (refine rg_y (v := ?_) (a' := ?_) rfl rfl (by rfl) (fun w' hw' => ?_) ?_ ?_; rotate_left 2; (· go_simp; (try rw [hwk]); (try rw [hw1]); (try rw [if_pos hks]); (try rw [if_pos hkb]); (try rw [hkt]); (try rw [hk1]); (try rw [if_neg hq1]); (try rw [if_neg hq2]); with_reducible rfl); (· simp only [Act.put, List.setIfInBounds_toArray, List.set_cons_zero, List.set_cons_succ]; rfl))
        refine rg_call (args := ?_) rfl Tryd.func10 (by kernel_rfl) rfl (by rfl) rfl rfl ?_ ?_
        rotate_left 1
        · go_simp; rfl
        first | (with_reducible refine (works_any _).mono ?_)
        rintro e w' ⟨rfl, hb⟩
        refine ⟨_, _, rfl, by (repeat (first | assumption | exact Ext.refl _ | refine Ext.drew ?_ | refine Ext.alloc ?_ _ | refine Ext.drewN ?_ _ | refine Ext.trans ?_ (by assumption))), (by simp only [Act.put, List.setIfInBounds_toArray, List.set_cons_zero, List.set_cons_succ]; rfl), ?_⟩
        iterate 2
          first
            | (refine rg_off (a' := ?_) rfl rfl (by rfl) ?_ ?_; rotate_left 1; (· simp only [Act.put, List.setIfInBounds_toArray, List.set_cons_zero, List.set_cons_succ]; rfl))
            | (refine rg_y (v := ?_) (a' := ?_) rfl rfl (by rfl) (fun w' hw' => ?_) ?_ ?_; rotate_left 2; (· go_simp; (try rw [hwk]); (try rw [hw1]); (try rw [if_pos hks]); (try rw [if_pos hkb]); (try rw [hkt]); (try rw [hk1]); (try rw [if_neg hq1]); (try rw [if_neg hq2]); with_reducible rfl); (· simp only [Act.put, List.setIfInBounds_toArray, List.set_cons_zero, List.set_cons_succ]; rfl))
        refine rg_end (NoPanic.normal ?_)
        go_wp2_with fail
        go_ret
        exact ⟨rfl, by (repeat (first | assumption | exact Ext.refl _ | refine Ext.drew ?_ | refine Ext.alloc ?_ _ | refine Ext.drewN ?_ _ | refine Ext.trans ?_ (by assumption)))⟩
set_option maxHeartbeats 1000000 in
set_option maxRecDepth 100000 in
theorem names_t2 (s t : ByteArray) (z c : Int) (w : World) (hm : s.size ≤ 4096 ∧ t.size ≤ 4096) (hz : -9223372036854775808 ≤ z ∧ z ≤ 9223372036854775807) (hc : 0 ≤ c ∧ c ≤ 255) (hn : nm s.data.toList = true) (h1 : 1 ≤ s.size ∧ s.size ≤ 24)
    (hpre : ∀ k : Nat, k < s.size → nm (s.extract 0 k).data.toList = decide (0 < k)) (hsp : ∀ k : Nat, k < s.size → nm (s.extract 0 k ++ strOfNums [c] ++ s.extract (k + 1) s.size).data.toList = mayZ c k) (ht : nm t.data.toList = true) (hl : 24 < s.size + t.size) (hst : nm (s ++ t).data.toList = false) (h45 : c ≠ 45) (h46 : c ≠ 46) : Calls Tryd.prog 4 #[.string s, .string t, .int .i64 z, .int .u8 c] w fun e w' => e = .returned (.bool true) ∧ Ext w w' := by
  have hss : s.size ≤ 9223372036854775807 := by omega
  have hts : t.size ≤ 9223372036854775807 := by omega
  go_enter Tryd.func4, Tryd.ntmps4
  have hX0 : Ext w w := Ext.refl w
  go_wp2_with (first | (go_at_call 14; (with_reducible refine (name_val s true hn hss _).mono ?_); rintro e w' ⟨rfl, hb⟩; have hX : Ext w w' := (by (repeat (first | assumption | exact Ext.refl _ | refine Ext.drew ?_ | refine Ext.alloc ?_ _ | refine Ext.drewN ?_ _ | refine Ext.trans ?_ (by assumption))))))
  refine (pick_any z s.size hz (by omega) _).mono ?_
  rintro e w' ⟨i, rfl, hi, -, rfl⟩
  obtain ⟨k, rfl⟩ : ∃ k : Nat, (k : Int) = i := ⟨i.toNat, by omega⟩
  have hk := hpre k (by omega)
  go_upto_region 6 with fail
  have hd : decide ((s.size : Int) + (t.size : Int) ≤ 24) = false := decide_eq_false (by omega)
  have hwr : wrap64 ((s.size : Int) + (t.size : Int)) = (s.size : Int) + (t.size : Int) := IntWalk.wrap64_in _ ⟨by omega, by omega⟩
  obtain ⟨kb, hkd⟩ : ∃ kb, decide (0 < k) = kb := ⟨_, rfl⟩
  rw [hkd] at hk
  cases kb
  all_goals
    go_upto_region 10 with (first | (go_at_call 14; (with_reducible refine (name_val (s.extract 0 k) _ hk (by simp; omega) _).mono ?_); rintro e w' ⟨rfl, hb⟩; have hX : Ext w w' := (by (repeat (first | assumption | exact Ext.refl _ | refine Ext.drew ?_ | refine Ext.alloc ?_ _ | refine Ext.drewN ?_ _ | refine Ext.trans ?_ (by assumption))))) | (go_at_call 14; (with_reducible refine (name_val ByteArray.empty false (by decide +kernel) (by decide +kernel) _).mono ?_); rintro e w' ⟨rfl, hb⟩; have hX : Ext w w' := (by (repeat (first | assumption | exact Ext.refl _ | refine Ext.drew ?_ | refine Ext.alloc ?_ _ | refine Ext.drewN ?_ _ | refine Ext.trans ?_ (by assumption))))) | (go_at_call 14; (with_reducible refine (name_val t true ht hts _).mono ?_); rintro e w' ⟨rfl, hb⟩; have hX : Ext w w' := (by (repeat (first | assumption | exact Ext.refl _ | refine Ext.drew ?_ | refine Ext.alloc ?_ _ | refine Ext.drewN ?_ _ | refine Ext.trans ?_ (by assumption))))) | (go_at_call 14; (with_reducible refine (name_val (s ++ t) false hst (by simp; omega) _).mono ?_); rintro e w' ⟨rfl, hb⟩; have hX : Ext w w' := (by (repeat (first | assumption | exact Ext.refl _ | refine Ext.drew ?_ | refine Ext.alloc ?_ _ | refine Ext.drewN ?_ _ | refine Ext.trans ?_ (by assumption))))))
    all_goals try (exfalso; rename_i hh; simp at hkd hh; omega)
    go_cut [9] from 57 to 62 (fun s9 wx => s9 = .bool (decide (97 ≤ c ∧ c ≤ 122)) ∧ Ext w wx)
    case first =>
      go_wp2_with fail
      all_goals go_meet
      all_goals refine ⟨?_, by (repeat (first | assumption | exact Ext.refl _ | refine Ext.drew ?_ | refine Ext.alloc ?_ _ | refine Ext.drewN ?_ _ | refine Ext.trans ?_ (by assumption)))⟩
      all_goals first
        | (rw [decide_eq_true (by omega)])
        | (rw [decide_eq_false (by omega)])
        | (simp [*] <;> omega)
    case rest =>
      obtain ⟨rfl, hE⟩ := hcut
      have hmay : mayZ c k = (decide (97 ≤ c ∧ c ≤ 122) || (decide (0 < k) && (decide (48 ≤ c ∧ c ≤ 57) || decide (c = 45) || decide (c = 46)))) := rfl
      generalize hmz : mayZ c k = mz at hmay
      generalize hsm : decide (97 ≤ c ∧ c ≤ 122) = sm at hmay
      go_upto_region 11 with fail
      go_cut [10] from 63 to 83 (fun s10 wx => s10 = .bool mz ∧ Ext w wx)
      case first =>
        cases sm
        all_goals
          go_wp2_with fail
          all_goals go_meet
          all_goals refine ⟨?_, by (repeat (first | assumption | exact Ext.refl _ | refine Ext.drew ?_ | refine Ext.alloc ?_ _ | refine Ext.drewN ?_ _ | refine Ext.trans ?_ (by assumption)))⟩
          all_goals first
            | (subst hmay; simp [*]; done)
            | (subst hmay; simp [*] <;> omega)
            | (subst hmay; simp only [Value.bool.injEq]; rw [Bool.eq_iff_iff]; simp; omega)
      case rest =>
        obtain ⟨rfl, hE2⟩ := hcut
        go_upto_region 12 with fail
        have hsp1 := hsp k (by omega)
        have hks : k ≤ s.size := by omega
        have hwk : IntKind.i64.wrap ((k : Int) + 1) = (k : Int) + 1 := by rw [IntKind.wrap_i64]; omega
        have hkb : 0 ≤ (k : Int) + 1 ∧ (k : Int) + 1 ≤ (s.size : Int) := ⟨by omega, by omega⟩
        have hkt : ((k : Int) + 1).toNat = k + 1 := by omega
        rw [hmz] at hsp1
        have hss1 : (strOfNums [c]).size = 1 := strOfNums_size _
        have hq1 : ¬ (9223372036854775807 < k + 1) := by omega
        have hq2 : ¬ (9223372036854775807 < k + 1 + (s.size - (k + 1))) := by omega
        have hw1 : IntKind.i64.wrap 1 = 1 := by decide
        have hk1 : (1 : Int).toNat = 1 := rfl
        refine wp_region_noPanic ?_
        refine rg_start [(true, 0), (true, 1), (true, 2), (true, 3), (true, 7), (true, 8), (true, 9), (true, 10), (true, 13), (false, 4), (false, 5), (true, 6), (true, 11), (false, 12), (true, 14), (true, 15), (false, 16), (true, 17), (true, 18)] (fun w' => Ext w w') (by kernel_rfl) (by kernel_rfl) (fun _ _ _ _ _ h => h) (by (repeat (first | assumption | exact Ext.refl _ | refine Ext.drew ?_ | refine Ext.alloc ?_ _ | refine Ext.drewN ?_ _ | refine Ext.trans ?_ (by assumption)))) ?_
        iterate 9
          first
            | (refine rg_off (a' := ?_) rfl rfl (by rfl) ?_ ?_; rotate_left 1; (· simp only [Act.put, List.setIfInBounds_toArray, List.set_cons_zero, List.set_cons_succ]; rfl))
            | (refine rg_y (v := ?_) (a' := ?_) rfl rfl (by rfl) (fun w' hw' => ?_) ?_ ?_; rotate_left 2; (· go_simp; (try rw [hwk]); (try rw [hw1]); (try rw [if_pos hks]); (try rw [if_pos hkb]); (try rw [hkt]); (try rw [hk1]); (try rw [if_neg hq1]); (try rw [if_neg hq2]); with_reducible rfl); (· simp only [Act.put, List.setIfInBounds_toArray, List.set_cons_zero, List.set_cons_succ]; rfl))
        refine rg_value (v := ?_) (w1 := ?_) (a' := ?_) rfl rfl (by rfl) ?_ ?_ ?_ ?_
        rotate_left 3
        · go_simp; constructor <;> with_reducible rfl
        · (repeat (first | assumption | exact Ext.refl _ | refine Ext.drew ?_ | refine Ext.alloc ?_ _ | refine Ext.drewN ?_ _ | refine Ext.trans ?_ (by assumption)))
        · simp only [Act.put, List.setIfInBounds_toArray, List.set_cons_zero, List.set_cons_succ]; rfl
        refine rg_value (v := ?_) (w1 := ?_) (a' := ?_) rfl rfl (by rfl) ?_ ?_ ?_ ?_
        rotate_left 3
        · go_simp
          rw [run_convert_bytes_arg _ 32 5 Tryd.underlying32 Tryd.underlying5 _ 0 1 1 [c] rfl (fun i hi => by obtain rfl : i = 0 := (by omega); go_simp) 9 Tryd.underlying9]
          rfl
        · (repeat (first | assumption | exact Ext.refl _ | refine Ext.drew ?_ | refine Ext.alloc ?_ _ | refine Ext.drewN ?_ _ | refine Ext.trans ?_ (by assumption)))
        · simp only [Act.put, List.setIfInBounds_toArray, List.set_cons_zero, List.set_cons_succ]; rfl
        iterate 2
          first
            | (refine rg_off (a' := ?_) rfl rfl (by rfl) ?_ ?_; rotate_left 1; (· simp only [Act.put, List.setIfInBounds_toArray, List.set_cons_zero, List.set_cons_succ]; rfl))
            | (refine rg_y (v := ?_) (a' := ?_) rfl rfl (by rfl) (fun w' hw' => ?_) ?_ ?_; rotate_left 2; (· go_simp; (try rw [hwk]); (try rw [hw1]); (try rw [if_pos hks]); (try rw [if_pos hkb]); (try rw [hkt]); (try rw [hk1]); (try rw [if_neg hq1]); (try rw [if_neg hq2]); with_reducible rfl); (· simp only [Act.put, List.setIfInBounds_toArray, List.set_cons_zero, List.set_cons_succ]; rfl))
        refine rg_call (args := ?_) rfl Tryd.func14 (by kernel_rfl) rfl (by rfl) rfl rfl ?_ ?_
        rotate_left 1
        · go_simp; rfl
        first | (with_reducible refine (name_val _ mz hsp1 (by simp only [ByteArray.size_append, ByteArray.size_extract, strOfNums_size, List.length_singleton]; omega) _).mono ?_)
        rintro e w' ⟨rfl, hb⟩
        refine ⟨_, _, rfl, by (repeat (first | assumption | exact Ext.refl _ | refine Ext.drew ?_ | refine Ext.alloc ?_ _ | refine Ext.drewN ?_ _ | refine Ext.trans ?_ (by assumption))), (by simp only [Act.put, List.setIfInBounds_toArray, List.set_cons_zero, List.set_cons_succ]; rfl), ?_⟩
        iterate 2
          first
            | (refine rg_off (a' := ?_) rfl rfl (by rfl) ?_ ?_; rotate_left 1; (· simp only [Act.put, List.setIfInBounds_toArray, List.set_cons_zero, List.set_cons_succ]; rfl))
            | (refine rg_y (v := ?_) (a' := ?_) rfl rfl (by rfl) (fun w' hw' => ?_) ?_ ?_; rotate_left 2; (· go_simp; (try rw [hwk]); (try rw [hw1]); (try rw [if_pos hks]); (try rw [if_pos hkb]); (try rw [hkt]); (try rw [hk1]); (try rw [if_neg hq1]); (try rw [if_neg hq2]); with_reducible rfl); (· simp only [Act.put, List.setIfInBounds_toArray, List.set_cons_zero, List.set_cons_succ]; rfl))
        refine rg_call (args := ?_) rfl Tryd.func10 (by kernel_rfl) rfl (by rfl) rfl rfl ?_ ?_
        rotate_left 1
        · go_simp; rfl
        first | (with_reducible refine (works_any _).mono ?_)
        rintro e w' ⟨rfl, hb⟩
        refine ⟨_, _, rfl, by (repeat (first | assumption | exact Ext.refl _ | refine Ext.drew ?_ | refine Ext.alloc ?_ _ | refine Ext.drewN ?_ _ | refine Ext.trans ?_ (by assumption))), (by simp only [Act.put, List.setIfInBounds_toArray, List.set_cons_zero, List.set_cons_succ]; rfl), ?_⟩
        iterate 2
          first
            | (refine rg_off (a' := ?_) rfl rfl (by rfl) ?_ ?_; rotate_left 1; (· simp only [Act.put, List.setIfInBounds_toArray, List.set_cons_zero, List.set_cons_succ]; rfl))
            | (refine rg_y (v := ?_) (a' := ?_) rfl rfl (by rfl) (fun w' hw' => ?_) ?_ ?_; rotate_left 2; (· go_simp; (try rw [hwk]); (try rw [hw1]); (try rw [if_pos hks]); (try rw [if_pos hkb]); (try rw [hkt]); (try rw [hk1]); (try rw [if_neg hq1]); (try rw [if_neg hq2]); with_reducible rfl); (· simp only [Act.put, List.setIfInBounds_toArray, List.set_cons_zero, List.set_cons_succ]; rfl))
        refine rg_end (NoPanic.normal ?_)
        go_wp2_with fail
        go_ret
        exact ⟨rfl, by (repeat (first | assumption | exact Ext.refl _ | refine Ext.drew ?_ | refine Ext.alloc ?_ _ | refine Ext.drewN ?_ _ | refine Ext.trans ?_ (by assumption)))⟩
set_option maxHeartbeats 1000000 in
set_option maxRecDepth 100000 in
theorem names_t2x (s t : ByteArray) (z : Int) (w : World) (hm : s.size ≤ 4096 ∧ t.size ≤ 4096) (hz : -9223372036854775808 ≤ z ∧ z ≤ 9223372036854775807) (hn : nm s.data.toList = true) (h1 : 1 ≤ s.size ∧ s.size ≤ 24)
    (hpre : ∀ k : Nat, k < s.size → nm (s.extract 0 k).data.toList = decide (0 < k)) (hsp : ∀ k : Nat, k < s.size → nm (s.extract 0 k ++ strOfNums [45] ++ s.extract (k + 1) s.size).data.toList = mayZ 45 k) (ht : nm t.data.toList = true) (hl : 24 < s.size + t.size) (hst : nm (s ++ t).data.toList = false) : Calls Tryd.prog 4 #[.string s, .string t, .int .i64 z, .int .u8 45] w fun e w' => e = .returned (.bool true) ∧ Ext w w' := by
  have hss : s.size ≤ 9223372036854775807 := by omega
  have hts : t.size ≤ 9223372036854775807 := by omega
  go_enter Tryd.func4, Tryd.ntmps4
  have hX0 : Ext w w := Ext.refl w
  go_wp2_with (first | (go_at_call 14; (with_reducible refine (name_val s true hn hss _).mono ?_); rintro e w' ⟨rfl, hb⟩; have hX : Ext w w' := (by (repeat (first | assumption | exact Ext.refl _ | refine Ext.drew ?_ | refine Ext.alloc ?_ _ | refine Ext.drewN ?_ _ | refine Ext.trans ?_ (by assumption))))))
  refine (pick_any z s.size hz (by omega) _).mono ?_
  rintro e w' ⟨i, rfl, hi, -, rfl⟩
  obtain ⟨k, rfl⟩ : ∃ k : Nat, (k : Int) = i := ⟨i.toNat, by omega⟩
  have hk := hpre k (by omega)
  go_upto_region 6 with fail
  have hd : decide ((s.size : Int) + (t.size : Int) ≤ 24) = false := decide_eq_false (by omega)
  have hwr : wrap64 ((s.size : Int) + (t.size : Int)) = (s.size : Int) + (t.size : Int) := IntWalk.wrap64_in _ ⟨by omega, by omega⟩
  obtain ⟨kb, hkd⟩ : ∃ kb, decide (0 < k) = kb := ⟨_, rfl⟩
  rw [hkd] at hk
  cases kb
  all_goals
    go_upto_region 10 with (first | (go_at_call 14; (with_reducible refine (name_val (s.extract 0 k) _ hk (by simp; omega) _).mono ?_); rintro e w' ⟨rfl, hb⟩; have hX : Ext w w' := (by (repeat (first | assumption | exact Ext.refl _ | refine Ext.drew ?_ | refine Ext.alloc ?_ _ | refine Ext.drewN ?_ _ | refine Ext.trans ?_ (by assumption))))) | (go_at_call 14; (with_reducible refine (name_val ByteArray.empty false (by decide +kernel) (by decide +kernel) _).mono ?_); rintro e w' ⟨rfl, hb⟩; have hX : Ext w w' := (by (repeat (first | assumption | exact Ext.refl _ | refine Ext.drew ?_ | refine Ext.alloc ?_ _ | refine Ext.drewN ?_ _ | refine Ext.trans ?_ (by assumption))))) | (go_at_call 14; (with_reducible refine (name_val t true ht hts _).mono ?_); rintro e w' ⟨rfl, hb⟩; have hX : Ext w w' := (by (repeat (first | assumption | exact Ext.refl _ | refine Ext.drew ?_ | refine Ext.alloc ?_ _ | refine Ext.drewN ?_ _ | refine Ext.trans ?_ (by assumption))))) | (go_at_call 14; (with_reducible refine (name_val (s ++ t) false hst (by simp; omega) _).mono ?_); rintro e w' ⟨rfl, hb⟩; have hX : Ext w w' := (by (repeat (first | assumption | exact Ext.refl _ | refine Ext.drew ?_ | refine Ext.alloc ?_ _ | refine Ext.drewN ?_ _ | refine Ext.trans ?_ (by assumption))))))
    all_goals try (exfalso; rename_i hh; simp at hkd hh; omega)
    go_cut [9] from 57 to 62 (fun s9 wx => s9 = .bool (decide (97 ≤ (45 : Int) ∧ (45 : Int) ≤ 122)) ∧ Ext w wx)
    case first =>
      go_wp2_with fail
      all_goals go_meet
      all_goals refine ⟨?_, by (repeat (first | assumption | exact Ext.refl _ | refine Ext.drew ?_ | refine Ext.alloc ?_ _ | refine Ext.drewN ?_ _ | refine Ext.trans ?_ (by assumption)))⟩
      all_goals first
        | (rw [decide_eq_true (by omega)])
        | (rw [decide_eq_false (by omega)])
        | (simp [*] <;> omega)
    case rest =>
      obtain ⟨rfl, hE⟩ := hcut
      have hmay : mayZ 45 k = (decide (97 ≤ (45 : Int) ∧ (45 : Int) ≤ 122) || (decide (0 < k) && (decide (48 ≤ (45 : Int) ∧ (45 : Int) ≤ 57) || decide ((45 : Int) = 45) || decide ((45 : Int) = 46)))) := rfl
      generalize hmz : mayZ 45 k = mz at hmay
      generalize hsm : decide (97 ≤ (45 : Int) ∧ (45 : Int) ≤ 122) = sm at hmay
      go_upto_region 11 with fail
      go_cut [10] from 63 to 83 (fun s10 wx => s10 = .bool mz ∧ Ext w wx)
      case first =>
        cases sm
        all_goals
          go_wp2_with fail
          all_goals go_meet
          all_goals refine ⟨?_, by (repeat (first | assumption | exact Ext.refl _ | refine Ext.drew ?_ | refine Ext.alloc ?_ _ | refine Ext.drewN ?_ _ | refine Ext.trans ?_ (by assumption)))⟩
          all_goals first
            | (subst hmay; simp [*]; done)
            | (subst hmay; simp [*] <;> omega)
            | (subst hmay; simp only [Value.bool.injEq]; rw [Bool.eq_iff_iff]; simp; omega)
      case rest =>
        obtain ⟨rfl, hE2⟩ := hcut
        go_upto_region 12 with fail
        have hsp1 := hsp k (by omega)
        have hks : k ≤ s.size := by omega
        have hwk : IntKind.i64.wrap ((k : Int) + 1) = (k : Int) + 1 := by rw [IntKind.wrap_i64]; omega
        have hkb : 0 ≤ (k : Int) + 1 ∧ (k : Int) + 1 ≤ (s.size : Int) := ⟨by omega, by omega⟩
        have hkt : ((k : Int) + 1).toNat = k + 1 := by omega
        rw [hmz] at hsp1
        have hss1 : (strOfNums [45]).size = 1 := strOfNums_size _
        have hq1 : ¬ (9223372036854775807 < k + 1) := by omega
        have hq2 : ¬ (9223372036854775807 < k + 1 + (s.size - (k + 1))) := by omega
        have hw1 : IntKind.i64.wrap 1 = 1 := by decide
        have hk1 : (1 : Int).toNat = 1 := rfl
        refine wp_region_noPanic ?_
        refine rg_start [(true, 0), (true, 1), (true, 2), (true, 3), (true, 7), (true, 8), (true, 9), (true, 10), (true, 13), (false, 4), (false, 5), (true, 6), (true, 11), (false, 12), (true, 14), (true, 15), (false, 16), (true, 17), (true, 18)] (fun w' => Ext w w') (by kernel_rfl) (by kernel_rfl) (fun _ _ _ _ _ h => h) (by (repeat (first | assumption | exact Ext.refl _ | refine Ext.drew ?_ | refine Ext.alloc ?_ _ | refine Ext.drewN ?_ _ | refine Ext.trans ?_ (by assumption)))) ?_
        iterate 9
          first
            | (refine rg_off (a' := ?_) rfl rfl (by rfl) ?_ ?_; rotate_left 1; (· simp only [Act.put, List.setIfInBounds_toArray, List.set_cons_zero, List.set_cons_succ]; rfl))
            | (refine rg_y (v := ?_) (a' := ?_) rfl rfl (by rfl) (fun w' hw' => ?_) ?_ ?_; rotate_left 2; (· go_simp; (try rw [hwk]); (try rw [hw1]); (try rw [if_pos hks]); (try rw [if_pos hkb]); (try rw [hkt]); (try rw [hk1]); (try rw [if_neg hq1]); (try rw [if_neg hq2]); with_reducible rfl); (· simp only [Act.put, List.setIfInBounds_toArray, List.set_cons_zero, List.set_cons_succ]; rfl))
        refine rg_value (v := ?_) (w1 := ?_) (a' := ?_) rfl rfl (by rfl) ?_ ?_ ?_ ?_
        rotate_left 3
        · go_simp; constructor <;> with_reducible rfl
        · (repeat (first | assumption | exact Ext.refl _ | refine Ext.drew ?_ | refine Ext.alloc ?_ _ | refine Ext.drewN ?_ _ | refine Ext.trans ?_ (by assumption)))
        · simp only [Act.put, List.setIfInBounds_toArray, List.set_cons_zero, List.set_cons_succ]; rfl
        refine rg_value (v := ?_) (w1 := ?_) (a' := ?_) rfl rfl (by rfl) ?_ ?_ ?_ ?_
        rotate_left 3
        · go_simp
          rw [run_convert_bytes_arg _ 32 5 Tryd.underlying32 Tryd.underlying5 _ 0 1 1 [45] rfl (fun i hi => by obtain rfl : i = 0 := (by omega); go_simp) 9 Tryd.underlying9]
          rfl
        · (repeat (first | assumption | exact Ext.refl _ | refine Ext.drew ?_ | refine Ext.alloc ?_ _ | refine Ext.drewN ?_ _ | refine Ext.trans ?_ (by assumption)))
        · simp only [Act.put, List.setIfInBounds_toArray, List.set_cons_zero, List.set_cons_succ]; rfl
        iterate 2
          first
            | (refine rg_off (a' := ?_) rfl rfl (by rfl) ?_ ?_; rotate_left 1; (· simp only [Act.put, List.setIfInBounds_toArray, List.set_cons_zero, List.set_cons_succ]; rfl))
            | (refine rg_y (v := ?_) (a' := ?_) rfl rfl (by rfl) (fun w' hw' => ?_) ?_ ?_; rotate_left 2; (· go_simp; (try rw [hwk]); (try rw [hw1]); (try rw [if_pos hks]); (try rw [if_pos hkb]); (try rw [hkt]); (try rw [hk1]); (try rw [if_neg hq1]); (try rw [if_neg hq2]); with_reducible rfl); (· simp only [Act.put, List.setIfInBounds_toArray, List.set_cons_zero, List.set_cons_succ]; rfl))
        refine rg_call (args := ?_) rfl Tryd.func14 (by kernel_rfl) rfl (by rfl) rfl rfl ?_ ?_
        rotate_left 1
        · go_simp; rfl
        first | (with_reducible refine (name_val _ mz hsp1 (by simp only [ByteArray.size_append, ByteArray.size_extract, strOfNums_size, List.length_singleton]; omega) _).mono ?_)
        rintro e w' ⟨rfl, hb⟩
        refine ⟨_, _, rfl, by (repeat (first | assumption | exact Ext.refl _ | refine Ext.drew ?_ | refine Ext.alloc ?_ _ | refine Ext.drewN ?_ _ | refine Ext.trans ?_ (by assumption))), (by simp only [Act.put, List.setIfInBounds_toArray, List.set_cons_zero, List.set_cons_succ]; rfl), ?_⟩
        iterate 2
          first
            | (refine rg_off (a' := ?_) rfl rfl (by rfl) ?_ ?_; rotate_left 1; (· simp only [Act.put, List.setIfInBounds_toArray, List.set_cons_zero, List.set_cons_succ]; rfl))
            | (refine rg_y (v := ?_) (a' := ?_) rfl rfl (by rfl) (fun w' hw' => ?_) ?_ ?_; rotate_left 2; (· go_simp; (try rw [hwk]); (try rw [hw1]); (try rw [if_pos hks]); (try rw [if_pos hkb]); (try rw [hkt]); (try rw [hk1]); (try rw [if_neg hq1]); (try rw [if_neg hq2]); with_reducible rfl); (· simp only [Act.put, List.setIfInBounds_toArray, List.set_cons_zero, List.set_cons_succ]; rfl))
        refine rg_call (args := ?_) rfl Tryd.func10 (by kernel_rfl) rfl (by rfl) rfl rfl ?_ ?_
        rotate_left 1
        · go_simp; rfl
        first | (with_reducible refine (works_any _).mono ?_)
        rintro e w' ⟨rfl, hb⟩
        refine ⟨_, _, rfl, by (repeat (first | assumption | exact Ext.refl _ | refine Ext.drew ?_ | refine Ext.alloc ?_ _ | refine Ext.drewN ?_ _ | refine Ext.trans ?_ (by assumption))), (by simp only [Act.put, List.setIfInBounds_toArray, List.set_cons_zero, List.set_cons_succ]; rfl), ?_⟩
        iterate 2
          first
            | (refine rg_off (a' := ?_) rfl rfl (by rfl) ?_ ?_; rotate_left 1; (· simp only [Act.put, List.setIfInBounds_toArray, List.set_cons_zero, List.set_cons_succ]; rfl))
            | (refine rg_y (v := ?_) (a' := ?_) rfl rfl (by rfl) (fun w' hw' => ?_) ?_ ?_; rotate_left 2; (· go_simp; (try rw [hwk]); (try rw [hw1]); (try rw [if_pos hks]); (try rw [if_pos hkb]); (try rw [hkt]); (try rw [hk1]); (try rw [if_neg hq1]); (try rw [if_neg hq2]); with_reducible rfl); (· simp only [Act.put, List.setIfInBounds_toArray, List.set_cons_zero, List.set_cons_succ]; rfl))
        refine rg_end (NoPanic.normal ?_)
        go_wp2_with fail
        go_ret
        exact ⟨rfl, by (repeat (first | assumption | exact Ext.refl _ | refine Ext.drew ?_ | refine Ext.alloc ?_ _ | refine Ext.drewN ?_ _ | refine Ext.trans ?_ (by assumption)))⟩
set_option maxHeartbeats 1000000 in
set_option maxRecDepth 100000 in
theorem names_t2y (s t : ByteArray) (z : Int) (w : World) (hm : s.size ≤ 4096 ∧ t.size ≤ 4096) (hz : -9223372036854775808 ≤ z ∧ z ≤ 9223372036854775807) (hn : nm s.data.toList = true) (h1 : 1 ≤ s.size ∧ s.size ≤ 24)
    (hpre : ∀ k : Nat, k < s.size → nm (s.extract 0 k).data.toList = decide (0 < k)) (hsp : ∀ k : Nat, k < s.size → nm (s.extract 0 k ++ strOfNums [46] ++ s.extract (k + 1) s.size).data.toList = mayZ 46 k) (ht : nm t.data.toList = true) (hl : 24 < s.size + t.size) (hst : nm (s ++ t).data.toList = false) : Calls Tryd.prog 4 #[.string s, .string t, .int .i64 z, .int .u8 46] w fun e w' => e = .returned (.bool true) ∧ Ext w w' := by
  have hss : s.size ≤ 9223372036854775807 := by omega
  have hts : t.size ≤ 9223372036854775807 := by omega
  go_enter Tryd.func4, Tryd.ntmps4
  have hX0 : Ext w w := Ext.refl w
  go_wp2_with (first | (go_at_call 14; (with_reducible refine (name_val s true hn hss _).mono ?_); rintro e w' ⟨rfl, hb⟩; have hX : Ext w w' := (by (repeat (first | assumption | exact Ext.refl _ | refine Ext.drew ?_ | refine Ext.alloc ?_ _ | refine Ext.drewN ?_ _ | refine Ext.trans ?_ (by assumption))))))
  refine (pick_any z s.size hz (by omega) _).mono ?_
  rintro e w' ⟨i, rfl, hi, -, rfl⟩
  obtain ⟨k, rfl⟩ : ∃ k : Nat, (k : Int) = i := ⟨i.toNat, by omega⟩
  have hk := hpre k (by omega)
  go_upto_region 6 with fail
  have hd : decide ((s.size : Int) + (t.size : Int) ≤ 24) = false := decide_eq_false (by omega)
  have hwr : wrap64 ((s.size : Int) + (t.size : Int)) = (s.size : Int) + (t.size : Int) := IntWalk.wrap64_in _ ⟨by omega, by omega⟩
  obtain ⟨kb, hkd⟩ : ∃ kb, decide (0 < k) = kb := ⟨_, rfl⟩
  rw [hkd] at hk
  cases kb
  all_goals
    go_upto_region 10 with (first | (go_at_call 14; (with_reducible refine (name_val (s.extract 0 k) _ hk (by simp; omega) _).mono ?_); rintro e w' ⟨rfl, hb⟩; have hX : Ext w w' := (by (repeat (first | assumption | exact Ext.refl _ | refine Ext.drew ?_ | refine Ext.alloc ?_ _ | refine Ext.drewN ?_ _ | refine Ext.trans ?_ (by assumption))))) | (go_at_call 14; (with_reducible refine (name_val ByteArray.empty false (by decide +kernel) (by decide +kernel) _).mono ?_); rintro e w' ⟨rfl, hb⟩; have hX : Ext w w' := (by (repeat (first | assumption | exact Ext.refl _ | refine Ext.drew ?_ | refine Ext.alloc ?_ _ | refine Ext.drewN ?_ _ | refine Ext.trans ?_ (by assumption))))) | (go_at_call 14; (with_reducible refine (name_val t true ht hts _).mono ?_); rintro e w' ⟨rfl, hb⟩; have hX : Ext w w' := (by (repeat (first | assumption | exact Ext.refl _ | refine Ext.drew ?_ | refine Ext.alloc ?_ _ | refine Ext.drewN ?_ _ | refine Ext.trans ?_ (by assumption))))) | (go_at_call 14; (with_reducible refine (name_val (s ++ t) false hst (by simp; omega) _).mono ?_); rintro e w' ⟨rfl, hb⟩; have hX : Ext w w' := (by (repeat (first | assumption | exact Ext.refl _ | refine Ext.drew ?_ | refine Ext.alloc ?_ _ | refine Ext.drewN ?_ _ | refine Ext.trans ?_ (by assumption))))))
    all_goals try (exfalso; rename_i hh; simp at hkd hh; omega)
    go_cut [9] from 57 to 62 (fun s9 wx => s9 = .bool (decide (97 ≤ (46 : Int) ∧ (46 : Int) ≤ 122)) ∧ Ext w wx)
    case first =>
      go_wp2_with fail
      all_goals go_meet
      all_goals refine ⟨?_, by (repeat (first | assumption | exact Ext.refl _ | refine Ext.drew ?_ | refine Ext.alloc ?_ _ | refine Ext.drewN ?_ _ | refine Ext.trans ?_ (by assumption)))⟩
      all_goals first
        | (rw [decide_eq_true (by omega)])
        | (rw [decide_eq_false (by omega)])
        | (simp [*] <;> omega)
    case rest =>
      obtain ⟨rfl, hE⟩ := hcut
      have hmay : mayZ 46 k = (decide (97 ≤ (46 : Int) ∧ (46 : Int) ≤ 122) || (decide (0 < k) && (decide (48 ≤ (46 : Int) ∧ (46 : Int) ≤ 57) || decide ((46 : Int) = 45) || decide ((46 : Int) = 46)))) := rfl
      generalize hmz : mayZ 46 k = mz at hmay
      generalize hsm : decide (97 ≤ (46 : Int) ∧ (46 : Int) ≤ 122) = sm at hmay
      go_upto_region 11 with fail
      go_cut [10] from 63 to 83 (fun s10 wx => s10 = .bool mz ∧ Ext w wx)
      case first =>
        cases sm
        all_goals
          go_wp2_with fail
          all_goals go_meet
          all_goals refine ⟨?_, by (repeat (first | assumption | exact Ext.refl _ | refine Ext.drew ?_ | refine Ext.alloc ?_ _ | refine Ext.drewN ?_ _ | refine Ext.trans ?_ (by assumption)))⟩
          all_goals first
            | (subst hmay; simp [*]; done)
            | (subst hmay; simp [*] <;> omega)
            | (subst hmay; simp only [Value.bool.injEq]; rw [Bool.eq_iff_iff]; simp; omega)
      case rest =>
        obtain ⟨rfl, hE2⟩ := hcut
        go_upto_region 12 with fail
        have hsp1 := hsp k (by omega)
        have hks : k ≤ s.size := by omega
        have hwk : IntKind.i64.wrap ((k : Int) + 1) = (k : Int) + 1 := by rw [IntKind.wrap_i64]; omega
        have hkb : 0 ≤ (k : Int) + 1 ∧ (k : Int) + 1 ≤ (s.size : Int) := ⟨by omega, by omega⟩
        have hkt : ((k : Int) + 1).toNat = k + 1 := by omega
        rw [hmz] at hsp1
        have hss1 : (strOfNums [46]).size = 1 := strOfNums_size _
        have hq1 : ¬ (9223372036854775807 < k + 1) := by omega
        have hq2 : ¬ (9223372036854775807 < k + 1 + (s.size - (k + 1))) := by omega
        have hw1 : IntKind.i64.wrap 1 = 1 := by decide
        have hk1 : (1 : Int).toNat = 1 := rfl
        refine wp_region_noPanic ?_
        refine rg_start [(true, 0), (true, 1), (true, 2), (true, 3), (true, 7), (true, 8), (true, 9), (true, 10), (true, 13), (false, 4), (false, 5), (true, 6), (true, 11), (false, 12), (true, 14), (true, 15), (false, 16), (true, 17), (true, 18)] (fun w' => Ext w w') (by kernel_rfl) (by kernel_rfl) (fun _ _ _ _ _ h => h) (by (repeat (first | assumption | exact Ext.refl _ | refine Ext.drew ?_ | refine Ext.alloc ?_ _ | refine Ext.drewN ?_ _ | refine Ext.trans ?_ (by assumption)))) ?_
        iterate 9
          first
            | (refine rg_off (a' := ?_) rfl rfl (by rfl) ?_ ?_; rotate_left 1; (· simp only [Act.put, List.setIfInBounds_toArray, List.set_cons_zero, List.set_cons_succ]; rfl))
            | (refine rg_y (v := ?_) (a' := ?_) rfl rfl (by rfl) (fun w' hw' => ?_) ?_ ?_; rotate_left 2; (· go_simp; (try rw [hwk]); (try rw [hw1]); (try rw [if_pos hks]); (try rw [if_pos hkb]); (try rw [hkt]); (try rw [hk1]); (try rw [if_neg hq1]); (try rw [if_neg hq2]); with_reducible rfl); (· simp only [Act.put, List.setIfInBounds_toArray, List.set_cons_zero, List.set_cons_succ]; rfl))
        refine rg_value (v := ?_) (w1 := ?_) (a' := ?_) rfl rfl (by rfl) ?_ ?_ ?_ ?_
        rotate_left 3
        · go_simp; constructor <;> with_reducible rfl
        · (repeat (first | assumption | exact Ext.refl _ | refine Ext.drew ?_ | refine Ext.alloc ?_ _ | refine Ext.drewN ?_ _ | refine Ext.trans ?_ (by assumption)))
        · simp only [Act.put, List.setIfInBounds_toArray, List.set_cons_zero, List.set_cons_succ]; rfl
        refine rg_value (v := ?_) (w1 := ?_) (a' := ?_) rfl rfl (by rfl) ?_ ?_ ?_ ?_
        rotate_left 3
        · go_simp
          rw [run_convert_bytes_arg _ 32 5 Tryd.underlying32 Tryd.underlying5 _ 0 1 1 [46] rfl (fun i hi => by obtain rfl : i = 0 := (by omega); go_simp) 9 Tryd.underlying9]
          rfl
        · (repeat (first | assumption | exact Ext.refl _ | refine Ext.drew ?_ | refine Ext.alloc ?_ _ | refine Ext.drewN ?_ _ | refine Ext.trans ?_ (by assumption)))
        · simp only [Act.put, List.setIfInBounds_toArray, List.set_cons_zero, List.set_cons_succ]; rfl
        iterate 2
          first
            | (refine rg_off (a' := ?_) rfl rfl (by rfl) ?_ ?_; rotate_left 1; (· simp only [Act.put, List.setIfInBounds_toArray, List.set_cons_zero, List.set_cons_succ]; rfl))
            | (refine rg_y (v := ?_) (a' := ?_) rfl rfl (by rfl) (fun w' hw' => ?_) ?_ ?_; rotate_left 2; (· go_simp; (try rw [hwk]); (try rw [hw1]); (try rw [if_pos hks]); (try rw [if_pos hkb]); (try rw [hkt]); (try rw [hk1]); (try rw [if_neg hq1]); (try rw [if_neg hq2]); with_reducible rfl); (· simp only [Act.put, List.setIfInBounds_toArray, List.set_cons_zero, List.set_cons_succ]; rfl))
        refine rg_call (args := ?_) rfl Tryd.func14 (by kernel_rfl) rfl (by rfl) rfl rfl ?_ ?_
        rotate_left 1
        · go_simp; rfl
        first | (with_reducible refine (name_val _ mz hsp1 (by simp only [ByteArray.size_append, ByteArray.size_extract, strOfNums_size, List.length_singleton]; omega) _).mono ?_)
        rintro e w' ⟨rfl, hb⟩
        refine ⟨_, _, rfl, by (repeat (first | assumption | exact Ext.refl _ | refine Ext.drew ?_ | refine Ext.alloc ?_ _ | refine Ext.drewN ?_ _ | refine Ext.trans ?_ (by assumption))), (by simp only [Act.put, List.setIfInBounds_toArray, List.set_cons_zero, List.set_cons_succ]; rfl), ?_⟩
        iterate 2
          first
            | (refine rg_off (a' := ?_) rfl rfl (by rfl) ?_ ?_; rotate_left 1; (· simp only [Act.put, List.setIfInBounds_toArray, List.set_cons_zero, List.set_cons_succ]; rfl))
            | (refine rg_y (v := ?_) (a' := ?_) rfl rfl (by rfl) (fun w' hw' => ?_) ?_ ?_; rotate_left 2; (· go_simp; (try rw [hwk]); (try rw [hw1]); (try rw [if_pos hks]); (try rw [if_pos hkb]); (try rw [hkt]); (try rw [hk1]); (try rw [if_neg hq1]); (try rw [if_neg hq2]); with_reducible rfl); (· simp only [Act.put, List.setIfInBounds_toArray, List.set_cons_zero, List.set_cons_succ]; rfl))
        refine rg_call (args := ?_) rfl Tryd.func10 (by kernel_rfl) rfl (by rfl) rfl rfl ?_ ?_
        rotate_left 1
        · go_simp; rfl
        first | (with_reducible refine (works_any _).mono ?_)
        rintro e w' ⟨rfl, hb⟩
        refine ⟨_, _, rfl, by (repeat (first | assumption | exact Ext.refl _ | refine Ext.drew ?_ | refine Ext.alloc ?_ _ | refine Ext.drewN ?_ _ | refine Ext.trans ?_ (by assumption))), (by simp only [Act.put, List.setIfInBounds_toArray, List.set_cons_zero, List.set_cons_succ]; rfl), ?_⟩
        iterate 2
          first
            | (refine rg_off (a' := ?_) rfl rfl (by rfl) ?_ ?_; rotate_left 1; (· simp only [Act.put, List.setIfInBounds_toArray, List.set_cons_zero, List.set_cons_succ]; rfl))
            | (refine rg_y (v := ?_) (a' := ?_) rfl rfl (by rfl) (fun w' hw' => ?_) ?_ ?_; rotate_left 2; (· go_simp; (try rw [hwk]); (try rw [hw1]); (try rw [if_pos hks]); (try rw [if_pos hkb]); (try rw [hkt]); (try rw [hk1]); (try rw [if_neg hq1]); (try rw [if_neg hq2]); with_reducible rfl); (· simp only [Act.put, List.setIfInBounds_toArray, List.set_cons_zero, List.set_cons_succ]; rfl))
        refine rg_end (NoPanic.normal ?_)
        go_wp2_with fail
        go_ret
        exact ⟨rfl, by (repeat (first | assumption | exact Ext.refl _ | refine Ext.drew ?_ | refine Ext.alloc ?_ _ | refine Ext.drewN ?_ _ | refine Ext.trans ?_ (by assumption)))⟩
/-! ### the plain law of names -/
theorem nm_iff (l : List UInt8) : nm l = true ↔ (1 ≤ l.length ∧ l.length ≤ 24) ∧ isLetter (l.headD 0) = true ∧ ∀ x ∈ l, isSign x = true := by
  unfold nm
  rw [Bool.and_eq_true, Bool.and_eq_true, decide_eq_true_eq, List.all_eq_true, and_assoc]
theorem nm_size1 (s : ByteArray) (h : nm s.data.toList = true) : 1 ≤ s.size ∧ s.size ≤ 24 := by
  have := (nm_iff _).1 h
  rw [len_is] at this
  exact this.1
theorem nm_take (l : List UInt8) (h : nm l = true) (k : Nat) (hk : k < l.length) : nm (l.take k) = decide (0 < k) := by
  obtain ⟨h1, h2, h3⟩ := (nm_iff _).1 h
  rw [Bool.eq_iff_iff, nm_iff, decide_eq_true_eq]
  constructor
  · rintro ⟨⟨h, _⟩, _⟩
    rw [List.length_take] at h; omega
  · intro hp
    refine ⟨by rw [List.length_take]; omega, ?_, fun x hx => h3 x (List.mem_of_mem_take hx)⟩
    cases l with
    | nil => simp at hk
    | cons a l => cases k with
      | zero => omega
      | succ k => simpa using h2
theorem nm_app (l m : List UInt8) (h : nm l = true) (k : nm m = true) : nm (l ++ m) = decide (l.length + m.length ≤ 24) := by
  obtain ⟨h1, h2, h3⟩ := (nm_iff _).1 h
  obtain ⟨k1, k2, k3⟩ := (nm_iff _).1 k
  rw [Bool.eq_iff_iff, nm_iff, decide_eq_true_eq, List.length_append]
  constructor
  · rintro ⟨⟨_, h⟩, _⟩; exact h
  · intro hp
    refine ⟨by omega, ?_, fun x hx => ?_⟩
    · cases l with
      | nil => simp at h1
      | cons a l => simpa using h2
    · rcases List.mem_append.1 hx with hx | hx
      · exact h3 x hx
      · exact k3 x hx
theorem sign_may (c : Int) (hc : 0 ≤ c ∧ c ≤ 255) (k : Nat) : mayZ c k = (isLetter (UInt8.ofNat c.toNat) || (decide (0 < k) && isSign (UInt8.ofNat c.toNat))) := by
  have e : (UInt8.ofNat c.toNat).toNat = c.toNat := by
    simp [UInt8.toNat_ofNat]; omega
  unfold mayZ isSign isLetter
  rw [e]
  rw [Bool.eq_iff_iff]
  simp only [Bool.or_eq_true, Bool.and_eq_true, decide_eq_true_eq]
  omega
theorem nm_spoil (l : List UInt8) (h : nm l = true) (k : Nat) (hk : k < l.length) (b : UInt8) : nm (l.take k ++ [b] ++ l.drop (k + 1)) = (isLetter b || (decide (0 < k) && isSign b)) := by
  obtain ⟨h1, h2, h3⟩ := (nm_iff _).1 h
  have hl : isLetter b = true → isSign b = true := fun h => by unfold isSign; rw [h]; rfl
  rw [Bool.eq_iff_iff, nm_iff, Bool.or_eq_true, Bool.and_eq_true, decide_eq_true_eq]
  have hlen : (l.take k ++ [b] ++ l.drop (k + 1)).length = l.length := by simp; omega
  rw [hlen]
  have hmem : ∀ x ∈ l.take k ++ [b] ++ l.drop (k + 1), x = b ∨ x ∈ l := by
    intro x hx
    rcases List.mem_append.1 hx with hx | hx
    · rcases List.mem_append.1 hx with hx | hx
      · exact .inr (List.mem_of_mem_take hx)
      · exact .inl (by simpa using hx)
    · exact .inr (List.mem_of_mem_drop hx)
  have hb : b ∈ l.take k ++ [b] ++ l.drop (k + 1) := by simp
  constructor
  · rintro ⟨-, hd, ha⟩
    rcases Nat.eq_zero_or_pos k with rfl | hp
    · left; simpa using hd
    · right; exact ⟨hp, ha b hb⟩
  · intro ho
    have hs : isSign b = true := by rcases ho with h | h; exact hl h; exact h.2
    refine ⟨h1, ?_, fun x hx => ?_⟩
    · rcases Nat.eq_zero_or_pos k with rfl | hp
      · rcases ho with h | h
        · simpa using h
        · omega
      · cases l with
        | nil => simp at hk
        | cons a l => cases k with
          | zero => omega
          | succ k => simpa using h2
    · rcases hmem x hx with rfl | hx
      · exact hs
      · exact h3 x hx
theorem ex_take (s : ByteArray) (k : Nat) (hk : k < s.size) : (s.extract 0 k).data.toList = s.data.toList.take k := by simp
theorem ex_spoil (s : ByteArray) (k : Nat) (c : Int) (hk : k < s.size) : (s.extract 0 k ++ strOfNums [c] ++ s.extract (k + 1) s.size).data.toList = s.data.toList.take k ++ [UInt8.ofNat c.toNat] ++ s.data.toList.drop (k + 1) := by
  have h3 : (s.extract (k + 1) s.size).data.toList = s.data.toList.drop (k + 1) := by
    rw [ByteArray.data_extract, Array.toList_extract, List.extract_eq_take_drop]
    exact List.take_of_length_le (by rw [List.length_drop, len_is]; omega)
  rw [ByteArray.data_append, Array.toList_append, ByteArray.data_append, Array.toList_append, ex_take s k hk, h3, strOfNums_data]
  rfl
theorem names_walk (s t : ByteArray) (z c : Int) (w : World) (hz : -9223372036854775808 ≤ z ∧ z ≤ 9223372036854775807) (hc : 0 ≤ c ∧ c ≤ 255) : Calls Tryd.prog 4 #[.string s, .string t, .int .i64 z, .int .u8 c] w fun e w' => e = .returned (.bool true) ∧ Ext w w' := by
  by_cases hm : 4096 < s.size ∨ 4096 < t.size
  · exact names_long s t z c w hm
  have hm' : s.size ≤ 4096 ∧ t.size ≤ 4096 := by omega
  cases hn : nm s.data.toList
  · exact names_not s t z c w hm' hn
  have h1 := nm_size1 s hn
  have hpre : ∀ k : Nat, k < s.size → nm (s.extract 0 k).data.toList = decide (0 < k) := fun k hk => by
    rw [ex_take s k hk]
    exact nm_take _ hn k (by rw [len_is]; exact hk)
  have hsp : ∀ k : Nat, k < s.size → nm (s.extract 0 k ++ strOfNums [c] ++ s.extract (k + 1) s.size).data.toList = mayZ c k := fun k hk => by
    rw [ex_spoil s k c hk, sign_may c hc]
    exact nm_spoil _ hn k (by rw [len_is]; exact hk) _
  cases ht : nm t.data.toList
  · by_cases h45 : c = 45
    · subst h45; exact names_t0x s t z w hm' hz hn h1 hpre hsp ht
    by_cases h46 : c = 46
    · subst h46; exact names_t0y s t z w hm' hz hn h1 hpre hsp ht
    exact names_t0 s t z c w hm' hz hc hn h1 hpre hsp ht h45 h46
  have hst : nm (s ++ t).data.toList = decide (s.size + t.size ≤ 24) := by
    rw [ByteArray.data_append, Array.toList_append, nm_app _ _ hn ht, len_is, len_is]
  by_cases hl : s.size + t.size ≤ 24
  · rw [decide_eq_true hl] at hst
    by_cases h45 : c = 45
    · subst h45; exact names_t1x s t z w hm' hz hn h1 hpre hsp ht hl hst
    by_cases h46 : c = 46
    · subst h46; exact names_t1y s t z w hm' hz hn h1 hpre hsp ht hl hst
    exact names_t1 s t z c w hm' hz hc hn h1 hpre hsp ht hl hst h45 h46
  · rw [decide_eq_false hl] at hst
    have hl : 24 < s.size + t.size := by omega
    by_cases h45 : c = 45
    · subst h45; exact names_t2x s t z w hm' hz hn h1 hpre hsp ht hl hst
    by_cases h46 : c = 46
    · subst h46; exact names_t2y s t z w hm' hz hn h1 hpre hsp ht hl hst
    exact names_t2 s t z c w hm' hz hc hn h1 hpre hsp ht hl hst h45 h46
end Go.Proofs.YtmdjndhebgnjoaaDoor
