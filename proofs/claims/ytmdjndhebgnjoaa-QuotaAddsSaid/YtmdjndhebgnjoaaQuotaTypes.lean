/- The type of quotas as data. -/
import Derived.Test.YtmdjndhebgnjoaaRead
namespace Go.Proofs.Ytmdjndhebgnjoaa
set_option linter.unusedVariables false
set_option linter.unusedSimpArgs false
open Go.RowKit
structure Quota where
  s : Int
  e : Int
  b : Int
def rdQuota : Rd Quota := (Rd.pair (Rd.int .i64) (Rd.pair (Rd.int .i64) (Rd.int .i64))).iso fun x => (x.s, x.e, x.b)
theorem rdQuota_cells {w : World} {x : Quota} {cs : List Value} (h : rdQuota.K w x cs) : cs = [.int .i64 x.s, .int .i64 x.e, .int .i64 x.b] := by
  obtain ⟨_, _, rfl, rfl, _, _, rfl, rfl, rfl⟩ := h
  rfl
theorem opens_quota : Opens Try.prog 23 rdQuota :=
  opens_struct (fun x : Quota => (x.s, x.e, x.b)) (fun p => ⟨p.1, p.2.1, p.2.2⟩) (fun _ => rfl) Try.underlying23 (by kernel_rfl)
    (opensFs_cons rfl (opens_int Try.underlying3 (by kernel_rfl)) (opensFs_cons rfl (opens_int Try.underlying3 (by kernel_rfl)) (opensFs_one rfl (opens_int Try.underlying3 (by kernel_rfl)))))
theorem quota_agg {w : World} {x : Quota} {l : List Value} (h : rdQuota.K w x (Value.agg ⟨l⟩).cells.toList) : l = [.int .i64 x.s, .int .i64 x.e, .int .i64 x.b] := rdQuota_cells h
end Go.Proofs.Ytmdjndhebgnjoaa
