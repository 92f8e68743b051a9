/- The small helpers that the statements share: Pick. -/
import Derived.Test.YtmdjndhebgnjoaaDoorBase
namespace Go.Proofs.YtmdjndhebgnjoaaDoor
set_option linter.unusedVariables false
set_option linter.unusedSimpArgs false
open Go.RowKit
set_option maxHeartbeats 1000000 in
set_option maxRecDepth 100000 in
theorem pick_any (v n : Int) (hv : -9223372036854775808 ≤ v ∧ v ≤ 9223372036854775807) (hn : n ≤ 9223372036854775807) (w : World) : Calls Tryd.prog 15 #[.int .i64 v, .int .i64 n] w fun e w' => ∃ i : Int, e = .returned (.int .i64 i) ∧ (1 ≤ n → 0 ≤ i ∧ i < n) ∧ (n < 1 → i = 0) ∧ w = w' := by
  go_enter Tryd.func15, Tryd.ntmps15
  by_cases h1 : n < 1
  · go_wp2_with fail
    go_ret
    exact ⟨_, rfl, fun h => absurd h1 (by omega), fun _ => rfl, rfl⟩
  · have h0 : n ≠ 0 := by omega
    have a1 : v.tmod n < n := Int.tmod_lt_of_pos _ (by omega)
    have a2 : -n < v.tmod n := Int.lt_tmod_of_pos _ (by omega)
    have a3 : wrap64 (v.tmod n) = v.tmod n := IntWalk.wrap64_in _ ⟨by omega, by omega⟩
    have a4 : v.tmod n < 0 → wrap64 (v.tmod n + n) = v.tmod n + n := fun h => IntWalk.wrap64_in _ ⟨by omega, by omega⟩
    go_wp2_with fail
    all_goals go_ret
    all_goals (refine ⟨_, rfl, ⟨by omega, by omega⟩, ?_, rfl⟩; first | omega | (intro h; omega) | trivial)
end Go.Proofs.YtmdjndhebgnjoaaDoor
