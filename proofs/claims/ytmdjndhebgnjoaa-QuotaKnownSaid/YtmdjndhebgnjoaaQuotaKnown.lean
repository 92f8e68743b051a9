/- The closed statement of quotas. -/
import Derived.Test.YtmdjndhebgnjoaaQuotaLaws
namespace Go.Proofs.Ytmdjndhebgnjoaa
open Go.RowKit
set_option linter.unusedVariables false
theorem kmay0 (w : World) : Calls Try.prog 10 #[.agg #[.int .i64 2, .int .i64 9, .int .i64 100], .agg #[.int .i64 1, .int .i64 8, .int .i64 100], .agg #[.int .i64 2, .int .i64 0, .int .i64 0]] w fun e w' => e = .returned (.int .i64 23) ∧ Ext w w' := by
  have e : mayf 2 9 100 1 8 100 2 0 0 = 23 := by decide +kernel
  have h := may_any 2 9 100 1 8 100 2 0 0 w
  rwa [e] at h
theorem kmay1 (w : World) : Calls Try.prog 10 #[.agg #[.int .i64 2, .int .i64 9, .int .i64 100], .agg #[.int .i64 1, .int .i64 8, .int .i64 100], .agg #[.int .i64 0, .int .i64 0, .int .i64 0]] w fun e w' => e = .returned (.int .i64 0) ∧ Ext w w' := by
  have e : mayf 2 9 100 1 8 100 0 0 0 = 0 := by decide +kernel
  have h := may_any 2 9 100 1 8 100 0 0 0 w
  rwa [e] at h
theorem kmay2 (w : World) : Calls Try.prog 10 #[.agg #[.int .i64 1099511627776, .int .i64 1099511627776, .int .i64 1099511627776], .agg #[.int .i64 1099511627776, .int .i64 1099511627776, .int .i64 1099511627776], .agg #[.int .i64 0, .int .i64 0, .int .i64 1]] w fun e w' => e = .returned (.int .i64 23) ∧ Ext w w' := by
  have e : mayf 1099511627776 1099511627776 1099511627776 1099511627776 1099511627776 1099511627776 0 0 1 = 23 := by decide +kernel
  have h := may_any 1099511627776 1099511627776 1099511627776 1099511627776 1099511627776 1099511627776 0 0 1 w
  rwa [e] at h
theorem kmay3 (w : World) : Calls Try.prog 10 #[.agg #[.int .i64 1099511627776, .int .i64 1099511627776, .int .i64 1099511627776], .agg #[.int .i64 0, .int .i64 0, .int .i64 0], .agg #[.int .i64 1099511627776, .int .i64 1099511627776, .int .i64 1099511627776]] w fun e w' => e = .returned (.int .i64 0) ∧ Ext w w' := by
  have e : mayf 1099511627776 1099511627776 1099511627776 0 0 0 1099511627776 1099511627776 1099511627776 = 0 := by decide +kernel
  have h := may_any 1099511627776 1099511627776 1099511627776 0 0 0 1099511627776 1099511627776 1099511627776 w
  rwa [e] at h
theorem kchk0 (w : World) : Calls Try.prog 6 #[.agg #[.int .i64 1099511627776, .int .i64 1099511627776, .int .i64 1099511627776]] w fun e w' => e = .returned (.int .i64 0) ∧ Ext w w' := by
  have e : chk 1099511627776 1099511627776 1099511627776 = 0 := by decide +kernel
  have h := check_any 1099511627776 1099511627776 1099511627776 w
  rwa [e] at h
theorem kchk1 (w : World) : Calls Try.prog 6 #[.agg #[.int .i64 0, .int .i64 0, .int .i64 0]] w fun e w' => e = .returned (.int .i64 0) ∧ Ext w w' := by
  have e : chk 0 0 0 = 0 := by decide +kernel
  have h := check_any 0 0 0 w
  rwa [e] at h
theorem kchk2 (w : World) : Calls Try.prog 6 #[.agg #[.int .i64 1099511627777, .int .i64 0, .int .i64 0]] w fun e w' => e = .returned (.int .i64 1) ∧ Ext w w' := by
  have e : chk 1099511627777 0 0 = 1 := by decide +kernel
  have h := check_any 1099511627777 0 0 w
  rwa [e] at h
theorem kchk3 (w : World) : Calls Try.prog 6 #[.agg #[.int .i64 0, .int .i64 0, .int .i64 ((-9223372036854775808))]] w fun e w' => e = .returned (.int .i64 1) ∧ Ext w w' := by
  have e : chk 0 0 (-9223372036854775808) = 1 := by decide +kernel
  have h := check_any 0 0 (-9223372036854775808) w
  rwa [e] at h
theorem kchk4 (w : World) : Calls Try.prog 6 #[.agg #[.int .i64 0, .int .i64 9223372036854775807, .int .i64 0]] w fun e w' => e = .returned (.int .i64 1) ∧ Ext w w' := by
  have e : chk 0 9223372036854775807 0 = 1 := by decide +kernel
  have h := check_any 0 9223372036854775807 0 w
  rwa [e] at h
set_option maxHeartbeats 1000000 in
set_option maxRecDepth 100000 in
theorem qknown_any (w : World) : Calls Try.prog 5 #[] w fun e w' => e = .returned (.bool true) ∧ Ext w w' := by
  obtain ⟨W, hW, hE, b1, b2, b3⟩ := box3 w #[.int .i64 2, .int .i64 9, .int .i64 100] #[.int .i64 1, .int .i64 8, .int .i64 100] #[.int .i64 1099511627776, .int .i64 1099511627776, .int .i64 1099511627776] 23 23 23
  have c00_0 := b1 0 _ rfl
  have c01_0 := b1 1 _ rfl
  have c02_0 := b1 2 _ rfl
  have c10_0 := b2 0 _ rfl
  have c11_0 := b2 1 _ rfl
  have c12_0 := b2 2 _ rfl
  have c20_0 := b3 0 _ rfl
  have c21_0 := b3 1 _ rfl
  have c22_0 := b3 2 _ rfl
  clear b1 b2 b3
  go_enter Try.func5, Try.ntmps5
  go_upto_region 3 with fail
  rw [← hW]
  clear hW
  go_wp2_with fail
  refine (kmay0 _).mono ?_
  rintro e w1 ⟨rfl, hb1⟩
  have c00_1 := hb1.cellk c00_0
  have c01_1 := hb1.cellk c01_0
  have c02_1 := hb1.cellk c02_0
  have c10_1 := hb1.cellk c10_0
  have c11_1 := hb1.cellk c11_0
  have c12_1 := hb1.cellk c12_0
  have c20_1 := hb1.cellk c20_0
  have c21_1 := hb1.cellk c21_0
  have c22_1 := hb1.cellk c22_0
  clear c00_0 c01_0 c02_0 c10_0 c11_0 c12_0 c20_0 c21_0 c22_0
  replace hE := hE.trans hb1
  clear hb1
  go_wp2_with fail
  refine (kmay1 _).mono ?_
  rintro e w2 ⟨rfl, hb2⟩
  have c00_2 := hb2.cellk c00_1
  have c01_2 := hb2.cellk c01_1
  have c02_2 := hb2.cellk c02_1
  have c10_2 := hb2.cellk c10_1
  have c11_2 := hb2.cellk c11_1
  have c12_2 := hb2.cellk c12_1
  have c20_2 := hb2.cellk c20_1
  have c21_2 := hb2.cellk c21_1
  have c22_2 := hb2.cellk c22_1
  clear c00_1 c01_1 c02_1 c10_1 c11_1 c12_1 c20_1 c21_1 c22_1
  replace hE := hE.trans hb2
  clear hb2
  go_wp2_with fail
  refine (kmay2 _).mono ?_
  rintro e w3 ⟨rfl, hb3⟩
  have c00_3 := hb3.cellk c00_2
  have c01_3 := hb3.cellk c01_2
  have c02_3 := hb3.cellk c02_2
  have c10_3 := hb3.cellk c10_2
  have c11_3 := hb3.cellk c11_2
  have c12_3 := hb3.cellk c12_2
  have c20_3 := hb3.cellk c20_2
  have c21_3 := hb3.cellk c21_2
  have c22_3 := hb3.cellk c22_2
  clear c00_2 c01_2 c02_2 c10_2 c11_2 c12_2 c20_2 c21_2 c22_2
  replace hE := hE.trans hb3
  clear hb3
  go_wp2_with fail
  refine (kmay3 _).mono ?_
  rintro e w4 ⟨rfl, hb4⟩
  have c00_4 := hb4.cellk c00_3
  have c01_4 := hb4.cellk c01_3
  have c02_4 := hb4.cellk c02_3
  have c10_4 := hb4.cellk c10_3
  have c11_4 := hb4.cellk c11_3
  have c12_4 := hb4.cellk c12_3
  have c20_4 := hb4.cellk c20_3
  have c21_4 := hb4.cellk c21_3
  have c22_4 := hb4.cellk c22_3
  clear c00_3 c01_3 c02_3 c10_3 c11_3 c12_3 c20_3 c21_3 c22_3
  replace hE := hE.trans hb4
  clear hb4
  go_wp2_with fail
  refine (kchk0 _).mono ?_
  rintro e w5 ⟨rfl, hb5⟩
  have c00_5 := hb5.cellk c00_4
  have c01_5 := hb5.cellk c01_4
  have c02_5 := hb5.cellk c02_4
  have c10_5 := hb5.cellk c10_4
  have c11_5 := hb5.cellk c11_4
  have c12_5 := hb5.cellk c12_4
  have c20_5 := hb5.cellk c20_4
  have c21_5 := hb5.cellk c21_4
  have c22_5 := hb5.cellk c22_4
  clear c00_4 c01_4 c02_4 c10_4 c11_4 c12_4 c20_4 c21_4 c22_4
  replace hE := hE.trans hb5
  clear hb5
  go_wp2_with fail
  refine (kchk1 _).mono ?_
  rintro e w6 ⟨rfl, hb6⟩
  replace hE := hE.trans hb6
  clear hb6
  go_wp2_with fail
  refine (kchk2 _).mono ?_
  rintro e w7 ⟨rfl, hb7⟩
  replace hE := hE.trans hb7
  clear hb7
  go_wp2_with fail
  refine (kchk3 _).mono ?_
  rintro e w8 ⟨rfl, hb8⟩
  replace hE := hE.trans hb8
  clear hb8
  go_wp2_with fail
  refine (kchk4 _).mono ?_
  rintro e w9 ⟨rfl, hb9⟩
  replace hE := hE.trans hb9
  clear hb9
  go_wp2_with fail
  refine (known_any _).mono ?_
  rintro e w10 ⟨rfl, hb10⟩
  replace hE := hE.trans hb10
  clear hb10
  go_wp2
  go_ret
  exact ⟨rfl, hE⟩
end Go.Proofs.Ytmdjndhebgnjoaa
