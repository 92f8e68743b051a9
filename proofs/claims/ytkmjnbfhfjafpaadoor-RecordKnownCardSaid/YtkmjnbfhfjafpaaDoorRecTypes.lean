/- Records: their shape, and the functions of the kit on them. -/
import Derived.Test.YtkmjnbfhfjafpaaDoorNested
import Derived.Test.YtkmjnbfhfjafpaaDoorPlain
namespace Go.Proofs.YtkmjnbfhfjafpaaDoor
set_option linter.unusedVariables false
set_option linter.unusedSimpArgs false
open Go.RowKit
structure Rec where
  ten : ByteArray
  clock : Int
  kind : Int
  code : Int
  id : Int
  st : ByteArray
  su : ByteArray
  slot : Int
  uses : Int
  num : Int
  sealed : List (List UInt8)
def recEq (r s : Rec) : Bool := r.ten.toList == s.ten.toList && (r.clock == s.clock && (r.kind == s.kind && (r.code == s.code && (r.id == s.id && (r.st.toList == s.st.toList && (r.su.toList == s.su.toList && (r.slot == s.slot && (r.uses == s.uses && (r.num == s.num && r.sealed == s.sealed)))))))))
set_option maxHeartbeats 9000000 in
set_option maxRecDepth 100000 in
theorem sameRecord_any (w : World) (r s : Rec) (A : Option Addr) (c : Nat) (hS : rdB.Sl w A r.sealed.length r.sealed) (hc : r.sealed.length ≤ c) (hn : r.sealed.length ≤ 9223372036854775807) (hx : ∀ x ∈ r.sealed, x.length ≤ 9223372036854775807) (A' : Option Addr) (c' : Nat) (hS' : rdB.Sl w A' s.sealed.length s.sealed) (hc' : s.sealed.length ≤ c') :
    Calls Tryd.prog 18 #[.agg #[.string r.ten, .int .i64 r.clock, .int .i64 r.kind, .int .i64 r.code, .int .i64 r.id, .string r.st, .string r.su, .int .i64 r.slot, .int .i64 r.uses, .int .i64 r.num, .slice A r.sealed.length c], .agg #[.string s.ten, .int .i64 s.clock, .int .i64 s.kind, .int .i64 s.code, .int .i64 s.id, .string s.st, .string s.su, .int .i64 s.slot, .int .i64 s.uses, .int .i64 s.num, .slice A' s.sealed.length c']] w fun e w' => e = .returned (.bool (recEq r s)) ∧ Ext w w' := by
  have hsn := fun (w' : World) (h : Ext w w') => sameNested_any w' A c r.sealed (hS.ext h) hc hn hx A' c' s.sealed (hS'.ext h) hc'
  obtain ⟨W, hW, hE, bx, cx⟩ := box2 w #[.string r.ten, .int .i64 r.clock, .int .i64 r.kind, .int .i64 r.code, .int .i64 r.id, .string r.st, .string r.su, .int .i64 r.slot, .int .i64 r.uses, .int .i64 r.num, .slice A r.sealed.length c] #[.string s.ten, .int .i64 s.clock, .int .i64 s.kind, .int .i64 s.code, .int .i64 s.id, .string s.st, .string s.su, .int .i64 s.slot, .int .i64 s.uses, .int .i64 s.num, .slice A' s.sealed.length c'] 25 25
  have x0 : W.cell? ⟨w.heap.size, 0, none⟩ = some (.string r.ten) := bx 0 _ rfl
  have y0 : W.cell? ⟨w.heap.size + 1, 0, none⟩ = some (.string s.ten) := cx 0 _ rfl
  have x1 : W.cell? ⟨w.heap.size, 1, none⟩ = some (.int .i64 r.clock) := bx 1 _ rfl
  have y1 : W.cell? ⟨w.heap.size + 1, 1, none⟩ = some (.int .i64 s.clock) := cx 1 _ rfl
  have x2 : W.cell? ⟨w.heap.size, 2, none⟩ = some (.int .i64 r.kind) := bx 2 _ rfl
  have y2 : W.cell? ⟨w.heap.size + 1, 2, none⟩ = some (.int .i64 s.kind) := cx 2 _ rfl
  have x3 : W.cell? ⟨w.heap.size, 3, none⟩ = some (.int .i64 r.code) := bx 3 _ rfl
  have y3 : W.cell? ⟨w.heap.size + 1, 3, none⟩ = some (.int .i64 s.code) := cx 3 _ rfl
  have x4 : W.cell? ⟨w.heap.size, 4, none⟩ = some (.int .i64 r.id) := bx 4 _ rfl
  have y4 : W.cell? ⟨w.heap.size + 1, 4, none⟩ = some (.int .i64 s.id) := cx 4 _ rfl
  have x5 : W.cell? ⟨w.heap.size, 5, none⟩ = some (.string r.st) := bx 5 _ rfl
  have y5 : W.cell? ⟨w.heap.size + 1, 5, none⟩ = some (.string s.st) := cx 5 _ rfl
  have x6 : W.cell? ⟨w.heap.size, 6, none⟩ = some (.string r.su) := bx 6 _ rfl
  have y6 : W.cell? ⟨w.heap.size + 1, 6, none⟩ = some (.string s.su) := cx 6 _ rfl
  have x7 : W.cell? ⟨w.heap.size, 7, none⟩ = some (.int .i64 r.slot) := bx 7 _ rfl
  have y7 : W.cell? ⟨w.heap.size + 1, 7, none⟩ = some (.int .i64 s.slot) := cx 7 _ rfl
  have x8 : W.cell? ⟨w.heap.size, 8, none⟩ = some (.int .i64 r.uses) := bx 8 _ rfl
  have y8 : W.cell? ⟨w.heap.size + 1, 8, none⟩ = some (.int .i64 s.uses) := cx 8 _ rfl
  have x9 : W.cell? ⟨w.heap.size, 9, none⟩ = some (.int .i64 r.num) := bx 9 _ rfl
  have y9 : W.cell? ⟨w.heap.size + 1, 9, none⟩ = some (.int .i64 s.num) := cx 9 _ rfl
  have x10 : W.cell? ⟨w.heap.size, 10, none⟩ = some (.slice A r.sealed.length c) := bx 10 _ rfl
  have y10 : W.cell? ⟨w.heap.size + 1, 10, none⟩ = some (.slice A' s.sealed.length c') := cx 10 _ rfl
  clear bx cx
  have hsn := fun (w' : World) (h : Ext W w') => hsn w' (hE.trans h)
  unfold recEq
  obtain ⟨b0, h0⟩ : ∃ b, (r.ten.toList == s.ten.toList) = b := ⟨_, rfl⟩
  obtain ⟨b1, h1⟩ : ∃ b, (r.clock == s.clock) = b := ⟨_, rfl⟩
  obtain ⟨b2, h2⟩ : ∃ b, (r.kind == s.kind) = b := ⟨_, rfl⟩
  obtain ⟨b3, h3⟩ : ∃ b, (r.code == s.code) = b := ⟨_, rfl⟩
  obtain ⟨b4, h4⟩ : ∃ b, (r.id == s.id) = b := ⟨_, rfl⟩
  obtain ⟨b5, h5⟩ : ∃ b, (r.st.toList == s.st.toList) = b := ⟨_, rfl⟩
  obtain ⟨b6, h6⟩ : ∃ b, (r.su.toList == s.su.toList) = b := ⟨_, rfl⟩
  obtain ⟨b7, h7⟩ : ∃ b, (r.slot == s.slot) = b := ⟨_, rfl⟩
  obtain ⟨b8, h8⟩ : ∃ b, (r.uses == s.uses) = b := ⟨_, rfl⟩
  obtain ⟨b9, h9⟩ : ∃ b, (r.num == s.num) = b := ⟨_, rfl⟩
  obtain ⟨b10, h10⟩ : ∃ b, (r.sealed == s.sealed) = b := ⟨_, rfl⟩
  rw [h0, h1, h2, h3, h4, h5, h6, h7, h8, h9, h10]
  rw [h10] at hsn
  generalize r.sealed.length = n at *
  generalize s.sealed.length = m at *
  clear hS hS' hx h10
  have hY0 : Ext W W := Ext.refl W
  go_enter Tryd.func18, Tryd.ntmps18
  go_upto_region 1 with fail
  rw [← hW]
  clear hW
  refine wp_region_lit ?_
  iterate 6 (first | (refine pl_off (a' := ?_) rfl (by rfl) ?_ ?_; rotate_left 1; (· simp only [Act.put, List.setIfInBounds_toArray, List.set_cons_zero, List.set_cons_succ]; rfl)) | (refine pl_y (v := ?_) (a' := ?_) rfl (by rfl) ?_ ?_ ?_; rotate_left 2; (· go_simp; with_reducible rfl); (· simp only [Act.put, List.setIfInBounds_toArray, List.set_cons_zero, List.set_cons_succ]; rfl)))
  cases b0
  · refine pl_deadQ 4 (.bool false) (by kernel_rfl) (fun a' h1 h2 h3 => ?_)
    go_wp2_with fail
    exact bodyPost_ret (v := .bool false) (by simp [results, Tryd.results18, h1, h2]) h3 ⟨ret_bool (by simp), hE⟩
  iterate 7 (first | (refine pl_off (a' := ?_) rfl (by rfl) ?_ ?_; rotate_left 1; (· simp only [Act.put, List.setIfInBounds_toArray, List.set_cons_zero, List.set_cons_succ]; rfl)) | (refine pl_y (v := ?_) (a' := ?_) rfl (by rfl) ?_ ?_ ?_; rotate_left 2; (· go_simp; with_reducible rfl); (· simp only [Act.put, List.setIfInBounds_toArray, List.set_cons_zero, List.set_cons_succ]; rfl)))
  cases b1
  · refine pl_deadQ 4 (.bool false) (by kernel_rfl) (fun a' h1 h2 h3 => ?_)
    go_wp2_with fail
    exact bodyPost_ret (v := .bool false) (by simp [results, Tryd.results18, h1, h2]) h3 ⟨ret_bool (by simp), hE⟩
  iterate 7 (first | (refine pl_off (a' := ?_) rfl (by rfl) ?_ ?_; rotate_left 1; (· simp only [Act.put, List.setIfInBounds_toArray, List.set_cons_zero, List.set_cons_succ]; rfl)) | (refine pl_y (v := ?_) (a' := ?_) rfl (by rfl) ?_ ?_ ?_; rotate_left 2; (· go_simp; with_reducible rfl); (· simp only [Act.put, List.setIfInBounds_toArray, List.set_cons_zero, List.set_cons_succ]; rfl)))
  cases b2
  · refine pl_deadQ 4 (.bool false) (by kernel_rfl) (fun a' h1 h2 h3 => ?_)
    go_wp2_with fail
    exact bodyPost_ret (v := .bool false) (by simp [results, Tryd.results18, h1, h2]) h3 ⟨ret_bool (by simp), hE⟩
  iterate 7 (first | (refine pl_off (a' := ?_) rfl (by rfl) ?_ ?_; rotate_left 1; (· simp only [Act.put, List.setIfInBounds_toArray, List.set_cons_zero, List.set_cons_succ]; rfl)) | (refine pl_y (v := ?_) (a' := ?_) rfl (by rfl) ?_ ?_ ?_; rotate_left 2; (· go_simp; with_reducible rfl); (· simp only [Act.put, List.setIfInBounds_toArray, List.set_cons_zero, List.set_cons_succ]; rfl)))
  cases b3
  · refine pl_deadQ 4 (.bool false) (by kernel_rfl) (fun a' h1 h2 h3 => ?_)
    go_wp2_with fail
    exact bodyPost_ret (v := .bool false) (by simp [results, Tryd.results18, h1, h2]) h3 ⟨ret_bool (by simp), hE⟩
  iterate 7 (first | (refine pl_off (a' := ?_) rfl (by rfl) ?_ ?_; rotate_left 1; (· simp only [Act.put, List.setIfInBounds_toArray, List.set_cons_zero, List.set_cons_succ]; rfl)) | (refine pl_y (v := ?_) (a' := ?_) rfl (by rfl) ?_ ?_ ?_; rotate_left 2; (· go_simp; with_reducible rfl); (· simp only [Act.put, List.setIfInBounds_toArray, List.set_cons_zero, List.set_cons_succ]; rfl)))
  cases b4
  · refine pl_deadQ 4 (.bool false) (by kernel_rfl) (fun a' h1 h2 h3 => ?_)
    go_wp2_with fail
    exact bodyPost_ret (v := .bool false) (by simp [results, Tryd.results18, h1, h2]) h3 ⟨ret_bool (by simp), hE⟩
  iterate 7 (first | (refine pl_off (a' := ?_) rfl (by rfl) ?_ ?_; rotate_left 1; (· simp only [Act.put, List.setIfInBounds_toArray, List.set_cons_zero, List.set_cons_succ]; rfl)) | (refine pl_y (v := ?_) (a' := ?_) rfl (by rfl) ?_ ?_ ?_; rotate_left 2; (· go_simp; with_reducible rfl); (· simp only [Act.put, List.setIfInBounds_toArray, List.set_cons_zero, List.set_cons_succ]; rfl)))
  cases b5
  · refine pl_deadQ 4 (.bool false) (by kernel_rfl) (fun a' h1 h2 h3 => ?_)
    go_wp2_with fail
    exact bodyPost_ret (v := .bool false) (by simp [results, Tryd.results18, h1, h2]) h3 ⟨ret_bool (by simp), hE⟩
  iterate 7 (first | (refine pl_off (a' := ?_) rfl (by rfl) ?_ ?_; rotate_left 1; (· simp only [Act.put, List.setIfInBounds_toArray, List.set_cons_zero, List.set_cons_succ]; rfl)) | (refine pl_y (v := ?_) (a' := ?_) rfl (by rfl) ?_ ?_ ?_; rotate_left 2; (· go_simp; with_reducible rfl); (· simp only [Act.put, List.setIfInBounds_toArray, List.set_cons_zero, List.set_cons_succ]; rfl)))
  cases b6
  · refine pl_deadQ 4 (.bool false) (by kernel_rfl) (fun a' h1 h2 h3 => ?_)
    go_wp2_with fail
    exact bodyPost_ret (v := .bool false) (by simp [results, Tryd.results18, h1, h2]) h3 ⟨ret_bool (by simp), hE⟩
  iterate 7 (first | (refine pl_off (a' := ?_) rfl (by rfl) ?_ ?_; rotate_left 1; (· simp only [Act.put, List.setIfInBounds_toArray, List.set_cons_zero, List.set_cons_succ]; rfl)) | (refine pl_y (v := ?_) (a' := ?_) rfl (by rfl) ?_ ?_ ?_; rotate_left 2; (· go_simp; with_reducible rfl); (· simp only [Act.put, List.setIfInBounds_toArray, List.set_cons_zero, List.set_cons_succ]; rfl)))
  cases b7
  · refine pl_deadQ 4 (.bool false) (by kernel_rfl) (fun a' h1 h2 h3 => ?_)
    go_wp2_with fail
    exact bodyPost_ret (v := .bool false) (by simp [results, Tryd.results18, h1, h2]) h3 ⟨ret_bool (by simp), hE⟩
  iterate 7 (first | (refine pl_off (a' := ?_) rfl (by rfl) ?_ ?_; rotate_left 1; (· simp only [Act.put, List.setIfInBounds_toArray, List.set_cons_zero, List.set_cons_succ]; rfl)) | (refine pl_y (v := ?_) (a' := ?_) rfl (by rfl) ?_ ?_ ?_; rotate_left 2; (· go_simp; with_reducible rfl); (· simp only [Act.put, List.setIfInBounds_toArray, List.set_cons_zero, List.set_cons_succ]; rfl)))
  cases b8
  · refine pl_deadQ 4 (.bool false) (by kernel_rfl) (fun a' h1 h2 h3 => ?_)
    go_wp2_with fail
    exact bodyPost_ret (v := .bool false) (by simp [results, Tryd.results18, h1, h2]) h3 ⟨ret_bool (by simp), hE⟩
  iterate 7 (first | (refine pl_off (a' := ?_) rfl (by rfl) ?_ ?_; rotate_left 1; (· simp only [Act.put, List.setIfInBounds_toArray, List.set_cons_zero, List.set_cons_succ]; rfl)) | (refine pl_y (v := ?_) (a' := ?_) rfl (by rfl) ?_ ?_ ?_; rotate_left 2; (· go_simp; with_reducible rfl); (· simp only [Act.put, List.setIfInBounds_toArray, List.set_cons_zero, List.set_cons_succ]; rfl)))
  cases b9
  · refine pl_deadQ 4 (.bool false) (by kernel_rfl) (fun a' h1 h2 h3 => ?_)
    go_wp2_with fail
    exact bodyPost_ret (v := .bool false) (by simp [results, Tryd.results18, h1, h2]) h3 ⟨ret_bool (by simp), hE⟩
  iterate 4 (first | (refine pl_off (a' := ?_) rfl (by rfl) ?_ ?_; rotate_left 1; (· simp only [Act.put, List.setIfInBounds_toArray, List.set_cons_zero, List.set_cons_succ]; rfl)) | (refine pl_y (v := ?_) (a' := ?_) rfl (by rfl) ?_ ?_ ?_; rotate_left 2; (· go_simp; with_reducible rfl); (· simp only [Act.put, List.setIfInBounds_toArray, List.set_cons_zero, List.set_cons_succ]; rfl)))
  refine pl_call (args := ?_) Tryd.func48 (by kernel_rfl) rfl (by rfl) rfl rfl ?_ ?_
  rotate_left 1
  · go_simp; with_reducible rfl
  (with_reducible refine (hsn W (Ext.refl W)).mono ?_)
  rintro e w1 ⟨rfl, hY⟩
  refine ⟨_, _, rfl, (by simp only [Act.put, List.setIfInBounds_toArray, List.set_cons_zero, List.set_cons_succ]; rfl), ?_⟩
  iterate 2 (first | (refine pl_off (a' := ?_) rfl (by rfl) ?_ ?_; rotate_left 1; (· simp only [Act.put, List.setIfInBounds_toArray, List.set_cons_zero, List.set_cons_succ]; rfl)) | (refine pl_y (v := ?_) (a' := ?_) rfl (by rfl) ?_ ?_ ?_; rotate_left 2; (· go_simp; with_reducible rfl); (· simp only [Act.put, List.setIfInBounds_toArray, List.set_cons_zero, List.set_cons_succ]; rfl)))
  refine wpList_nil ?_
  go_wp2_with fail
  go_ret
  exact ⟨ret_bool (by simp), hE.trans hY⟩
end Go.Proofs.YtkmjnbfhfjafpaaDoor
