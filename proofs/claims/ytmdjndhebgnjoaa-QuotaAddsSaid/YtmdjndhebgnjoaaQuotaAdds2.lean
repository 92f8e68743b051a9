/- QuotaAdds: both ways. -/
import Derived.Test.YtmdjndhebgnjoaaQuotaAdds
namespace Go.Proofs.Ytmdjndhebgnjoaa
set_option linter.unusedVariables false
set_option linter.unusedSimpArgs false
open Go.RowKit
set_option maxHeartbeats 1000000 in
set_option maxRecDepth 100000 in
theorem adds_bad (q1 q2 q3 : Int) (v : Value) (w : World) (hok : ¬ okq q1 q2 q3 = true) :
    Calls Try.prog 4 #[.agg #[.int .i64 q1, .int .i64 q2, .int .i64 q3], v] w fun e w' => e = .returned (.bool true) ∧ Ext w w' := by
  have HC : chk q1 q2 q3 = 1 := by unfold chk; rw [if_neg hok]
  go_enter Try.func4, Try.ntmps4
  go_wp2_with fail
  refine (check_any _ _ _ _).mono ?_
  rw [HC]
  rintro e w1 ⟨rfl, hb1⟩
  clear HC
  go_wp2_with (go_at_call 12; refine (known_any _).mono ?_; rintro e w' ⟨rfl, hb⟩)
  go_ret
  exact ⟨rfl, (((Ext.refl _).alloc _).trans hb1).trans hb⟩
theorem adds_all (q1 q2 q3 : Int) (A : Option Addr) (n c : Nat) (xs : List Quota) (w : World) (hS : rdQuota.Sl w A n xs) (hn : n ≤ 9223372036854775807) :
    Calls Try.prog 4 #[.agg #[.int .i64 q1, .int .i64 q2, .int .i64 q3], .slice A n c] w fun e w' => e = .returned (.bool true) ∧ Ext w w' := by
  by_cases h : okq q1 q2 q3 = true
  · exact adds_walk q1 q2 q3 A n c xs w hS hn h
  · exact adds_bad q1 q2 q3 _ w h
end Go.Proofs.Ytmdjndhebgnjoaa
