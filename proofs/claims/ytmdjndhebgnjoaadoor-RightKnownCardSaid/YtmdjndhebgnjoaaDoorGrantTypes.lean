/- The types of grants and rules as data; a world that holds the tables. -/
import Derived.Test.YtmdjndhebgnjoaaDoorRead
import Derived.Test.YtmdjndhebgnjoaaDoorRows
namespace Go.Proofs.YtmdjndhebgnjoaaDoor
set_option linter.unusedVariables false
set_option linter.unusedSimpArgs false
open Go.RowKit
structure Grant where
  r : Int
  p : ByteArray
  x : Bool
  u : Int
def rdGrant : Rd Grant := (Rd.pair (Rd.int .i64) (Rd.pair Rd.str (Rd.pair Rd.bool (Rd.int .i64)))).iso fun x => (x.r, x.p, x.x, x.u)
theorem rdGrant_cells {w : World} {x : Grant} {cs : List Value} (h : rdGrant.K w x cs) : cs = [.int .i64 x.r, .string x.p, .bool x.x, .int .i64 x.u] := by
  obtain ⟨_, _, rfl, rfl, _, _, rfl, rfl, _, _, rfl, rfl, rfl⟩ := h
  rfl
theorem opens_grant : Opens Tryd.prog 23 rdGrant :=
  opens_struct (fun x : Grant => (x.r, x.p, x.x, x.u)) (fun p => ⟨p.1, p.2.1, p.2.2.1, p.2.2.2⟩) (fun _ => rfl) Tryd.underlying23 (by kernel_rfl)
    (opensFs_cons rfl (opens_int Tryd.underlying3 (by kernel_rfl)) (opensFs_cons rfl (opens_str Tryd.underlying9 (by kernel_rfl)) (opensFs_cons rfl (opens_bool Tryd.underlying4 (by kernel_rfl)) (opensFs_one rfl (opens_int Tryd.underlying3 (by kernel_rfl))))))
theorem grant_agg {w : World} {x : Grant} {l : List Value} (h : rdGrant.K w x (Value.agg ⟨l⟩).cells.toList) : l = [.int .i64 x.r, .string x.p, .bool x.x, .int .i64 x.u] := rdGrant_cells h
structure Rule where
  p : ByteArray
  r : Int
def rdRule : Rd Rule := (Rd.pair Rd.str (Rd.int .i64)).iso fun x => (x.p, x.r)
theorem rdRule_cells {w : World} {x : Rule} {cs : List Value} (h : rdRule.K w x cs) : cs = [.string x.p, .int .i64 x.r] := by
  obtain ⟨_, _, rfl, rfl, rfl⟩ := h
  rfl
theorem opens_rule : Opens Tryd.prog 40 rdRule :=
  opens_struct (fun x : Rule => (x.p, x.r)) (fun p => ⟨p.1, p.2⟩) (fun _ => rfl) Tryd.underlying40 (by kernel_rfl)
    (opensFs_cons rfl (opens_str Tryd.underlying9 (by kernel_rfl)) (opensFs_one rfl (opens_int Tryd.underlying3 (by kernel_rfl))))
theorem rule_agg {w : World} {x : Rule} {l : List Value} (h : rdRule.K w x (Value.agg ⟨l⟩).cells.toList) : l = [.string x.p, .int .i64 x.r] := rdRule_cells h

/-- The settled world, its two tables holding what their initialisers lay. -/
noncomputable def laidWorld (os : Os) : World :=
  let w := World.holding Tryd.prog os ⟨#[], #[], []⟩
  { w with heap := (w.heap.modify 1 fun
      | .cells _ t frozen => .cells ((Go.Pinned.utf8FirstZ.map fun (z : Nat) => Value.int .u8 (z : Int)).toArray) t frozen
      | o => o).modify 2 fun
      | .cells _ t frozen => .cells (((([128, 191, 160, 191, 128, 159, 144, 191, 128, 143] ++ List.replicate 22 0) : List Int).map fun z => Value.int .u8 z).toArray) t frozen
      | o => o }
end Go.Proofs.YtmdjndhebgnjoaaDoor
