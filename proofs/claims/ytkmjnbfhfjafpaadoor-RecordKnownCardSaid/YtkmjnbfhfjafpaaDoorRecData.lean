/- Records as data: what a law is given, opened; a world that holds the tables. -/
import Derived.Test.YtkmjnbfhfjafpaaDoorRecPuts
import Derived.Test.YtkmjnbfhfjafpaaDoorRows
namespace Go.Proofs.YtkmjnbfhfjafpaaDoor
set_option linter.unusedVariables false
set_option linter.unusedSimpArgs false
open Go.RowKit
def rdRec : Rd Rec := (Rd.pair Rd.str (Rd.pair (Rd.int .i64) (Rd.pair (Rd.int .i64) (Rd.pair (Rd.int .i64) (Rd.pair (Rd.int .i64) (Rd.pair Rd.str (Rd.pair Rd.str (Rd.pair (Rd.int .i64) (Rd.pair (Rd.int .i64) (Rd.pair (Rd.int .i64) (Rd.slice rdB))))))))))).iso ofRec
theorem opens_rec : Opens Tryd.prog 25 rdRec :=
  opens_struct ofRec toRec (fun _ => rfl) Tryd.underlying25 (by kernel_rfl)
    (opensFs_cons rfl (opens_str Tryd.underlying9 (by kernel_rfl)) (opensFs_cons rfl (opens_int Tryd.underlying3 (by kernel_rfl)) (opensFs_cons rfl (opens_int Tryd.underlying3 (by kernel_rfl)) (opensFs_cons rfl (opens_int Tryd.underlying22 (by kernel_rfl)) (opensFs_cons rfl (opens_int Tryd.underlying3 (by kernel_rfl)) (opensFs_cons rfl (opens_str Tryd.underlying9 (by kernel_rfl)) (opensFs_cons rfl (opens_str Tryd.underlying9 (by kernel_rfl)) (opensFs_cons rfl (opens_int Tryd.underlying3 (by kernel_rfl)) (opensFs_cons rfl (opens_int Tryd.underlying3 (by kernel_rfl)) (opensFs_cons rfl (opens_int Tryd.underlying3 (by kernel_rfl))
      (opensFs_one rfl (opens_slice Tryd.underlying23 (by kernel_rfl) (opens_slice Tryd.underlying29 (by kernel_rfl) (opens_u8 Tryd.underlying5 (by kernel_rfl)) (by decide) (of_decide_eq_true (by kernel_rfl))) (by decide) (of_decide_eq_true (by kernel_rfl))))))))))))))
theorem opens_bytes : Opens Tryd.prog 29 (Rd.slice Rd.u8) := opens_slice Tryd.underlying29 (by kernel_rfl) (opens_u8 Tryd.underlying5 (by kernel_rfl)) (by decide) (of_decide_eq_true (by kernel_rfl))
theorem rec_agg {w : World} {r : Rec} {l : List Value} (h : rdRec.K w r (Value.agg ⟨l⟩).cells.toList) : ∃ A c, l = [.string r.ten, .int .i64 r.clock, .int .i64 r.kind, .int .i64 r.code, .int .i64 r.id, .string r.st, .string r.su, .int .i64 r.slot, .int .i64 r.uses, .int .i64 r.num, .slice A r.sealed.length c] ∧ r.sealed.length ≤ c ∧ rdB.Sl w A r.sealed.length r.sealed := by
  obtain ⟨_, _, e0, k0, _, _, e1, k1, _, _, e2, k2, _, _, e3, k3, _, _, e4, k4, _, _, e5, k5, _, _, e6, k6, _, _, e7, k7, _, _, e8, k8, _, _, e9, k9, A, c, e10, hl, hS⟩ := h
  refine ⟨A, c, ?_, hl, hS⟩
  have h0 : l = _ := e0
  rw [h0, k0, e1, k1, e2, k2, e3, k3, e4, k4, e5, k5, e6, k6, e7, k7, e8, k8, e9, k9, e10]
  rfl
theorem wf_int (x : Int) : (Lit.int .i64 x).wf = true ↔ intOk x := by
  simp [Lit.wf, IntKind.min, IntKind.max, IntKind.signed, IntKind.bits, intOk]
theorem recIn_of {r : Rec} (h : rdRec.ok reachBytes r) : RecIn r := by
  obtain ⟨h0, h1, h2, h3, h4, h5, h6, h7, h8, h9, h10, h11⟩ := h
  exact ⟨h10, fun x hx => (h11 x hx).1, h0, h5, h6, ⟨(wf_int _).1 h1, (wf_int _).1 h2, (wf_int _).1 h3, (wf_int _).1 h4, (wf_int _).1 h7, (wf_int _).1 h8, (wf_int _).1 h9⟩⟩
/-- The settled world, its two tables holding what their initialisers lay. -/
noncomputable def laidWorld (os : Os) : World :=
  let w := World.holding Tryd.prog os ⟨#[], #[], []⟩
  { w with heap := (w.heap.modify 1 fun
      | .cells _ t frozen => .cells ((Go.Pinned.utf8FirstZ.map fun (z : Nat) => Value.int .u8 (z : Int)).toArray) t frozen
      | o => o).modify 2 fun
      | .cells _ t frozen => .cells (((([128, 191, 160, 191, 128, 159, 144, 191, 128, 143] ++ List.replicate 22 0) : List Int).map fun z => Value.int .u8 z).toArray) t frozen
      | o => o }
end Go.Proofs.YtkmjnbfhfjafpaaDoor
