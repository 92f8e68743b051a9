/- quota.pick: the three method expressions, each at its own place. -/
import Derived.Test.YtmdjndhebgnjoaaBase
namespace Go.Proofs.Ytmdjndhebgnjoaa
set_option linter.unusedVariables false
set_option linter.unusedSimpArgs false
open Go.RowKit

theorem amt0 (a b c : Int) (w : World) : Calls Try.prog 16 #[.agg #[.int .i64 a, .int .i64 b, .int .i64 c]] w fun e w' => e = .returned (.int .i64 a) ∧ Ext w w' := by
  go_enter Try.func16, Try.ntmps16
  go_wp2
  go_ret
  exact ⟨rfl, (Ext.refl _).alloc _⟩
set_option maxHeartbeats 1000000 in
set_option maxRecDepth 100000 in
theorem pick0 (a b c : Int) (w : World) : Calls Try.prog 13 #[.int .i64 0, .agg #[.int .i64 a, .int .i64 b, .int .i64 c]] w fun e w' => e = .returned (.int .i64 a) ∧ Ext w w' := by
  go_enter Try.func13, Try.ntmps13
  go_wp2
  go_region_with (first | (go_at_call 16; refine (amt0 a b c _).mono ?_; rintro e w' ⟨rfl, hb⟩; simp only [Exit.then]))
  all_goals
    go_wp2
    go_ret
    exact ⟨rfl, ((((Ext.refl _).alloc _).alloc _).drew).trans hb⟩

theorem amt1 (a b c : Int) (w : World) : Calls Try.prog 17 #[.agg #[.int .i64 a, .int .i64 b, .int .i64 c]] w fun e w' => e = .returned (.int .i64 b) ∧ Ext w w' := by
  go_enter Try.func17, Try.ntmps17
  go_wp2
  go_ret
  exact ⟨rfl, (Ext.refl _).alloc _⟩
set_option maxHeartbeats 1000000 in
set_option maxRecDepth 100000 in
theorem pick1 (a b c : Int) (w : World) : Calls Try.prog 13 #[.int .i64 1, .agg #[.int .i64 a, .int .i64 b, .int .i64 c]] w fun e w' => e = .returned (.int .i64 b) ∧ Ext w w' := by
  go_enter Try.func13, Try.ntmps13
  go_wp2
  go_region_with (first | (go_at_call 17; refine (amt1 a b c _).mono ?_; rintro e w' ⟨rfl, hb⟩; simp only [Exit.then]))
  all_goals
    go_wp2
    go_ret
    exact ⟨rfl, ((((Ext.refl _).alloc _).alloc _).drew).trans hb⟩

theorem amt2 (a b c : Int) (w : World) : Calls Try.prog 18 #[.agg #[.int .i64 a, .int .i64 b, .int .i64 c]] w fun e w' => e = .returned (.int .i64 c) ∧ Ext w w' := by
  go_enter Try.func18, Try.ntmps18
  go_wp2
  go_ret
  exact ⟨rfl, (Ext.refl _).alloc _⟩
set_option maxHeartbeats 1000000 in
set_option maxRecDepth 100000 in
theorem pick2 (a b c : Int) (w : World) : Calls Try.prog 13 #[.int .i64 2, .agg #[.int .i64 a, .int .i64 b, .int .i64 c]] w fun e w' => e = .returned (.int .i64 c) ∧ Ext w w' := by
  go_enter Try.func13, Try.ntmps13
  go_wp2
  go_region_with (first | (go_at_call 18; refine (amt2 a b c _).mono ?_; rintro e w' ⟨rfl, hb⟩; simp only [Exit.then]))
  all_goals
    go_wp2
    go_ret
    exact ⟨rfl, ((((Ext.refl _).alloc _).alloc _).drew).trans hb⟩

end Go.Proofs.Ytmdjndhebgnjoaa
