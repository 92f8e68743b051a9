/- What every statement of rights asks beside its own: works. -/
import Derived.Test.YtmdjndhebgnjoaaDoorRightC
namespace Go.Proofs.YtmdjndhebgnjoaaDoor
set_option linter.unusedVariables false
set_option linter.unusedSimpArgs false
open Go.RowKit Go.Shelf
def mx3 (a b c : Int) : Int := max (max a b) c
def mx4 (a b c d : Int) : Int := max (max (max a b) c) d
theorem run_mx3 {P : Program} (ts : Array TypeId) (t : TypeId) (x y z : Int) (w : World) : (Builtin.max_ ts t #[.int .i64 x, .int .i64 y, .int .i64 z]).run P w = .ok (.int .i64 (mx3 x y z)) w := by
  simp only [Builtin.max_, Builtin.max2, List.foldlM_cons, List.foldlM_nil, mx3, Int.max_def]
  simp
  (repeat' split) <;> omega
theorem run_mx4 {P : Program} (ts : Array TypeId) (t : TypeId) (x y z v : Int) (w : World) : (Builtin.max_ ts t #[.int .i64 x, .int .i64 y, .int .i64 z, .int .i64 v]).run P w = .ok (.int .i64 (mx4 x y z v)) w := by
  simp only [Builtin.max_, Builtin.max2, List.foldlM_cons, List.foldlM_nil, mx4, Int.max_def]
  simp
  (repeat' split) <;> omega
theorem mx3_lt (a b c n : Int) : n < mx3 a b c ↔ n < a ∨ n < b ∨ n < c := by unfold mx3; omega
theorem mx4_lt (a b c d n : Int) : n < mx4 a b c d ↔ n < a ∨ n < b ∨ n < c ∨ n < d := by unfold mx4; omega
set_option maxHeartbeats 1000000 in
set_option maxRecDepth 100000 in
theorem open_any (w : World) : Calls Tryd.prog 30 #[] w fun e w' => e = .returned (.agg #[.int .i64 2, .string ⟨#[111, 112, 101, 110]⟩, .bool false, .int .i64 9]) ∧ Ext w w' := by
  go_enter Tryd.func30, Tryd.ntmps30
  go_wp2
  exact bodyPost_ret (v := .agg #[.int .i64 2, .string ⟨#[111, 112, 101, 110]⟩, .bool false, .int .i64 9]) (by simp [results, Tryd.results30, go_sem]) rfl ⟨rfl, by (repeat (first | assumption | exact Ext.refl _ | refine Ext.drew ?_ | refine Ext.alloc ?_ _ | refine Ext.drewN ?_ _ | refine Ext.trans ?_ (by assumption)))⟩
theorem name_val (s : ByteArray) (v : Bool) (h : nm s.data.toList = v) (hs : s.size ≤ 9223372036854775807) (w : World) : Calls Tryd.prog 14 #[.string s] w fun e w' => e = .returned (.bool v) ∧ Ext w w' := by
  have := name_any s w hs
  rwa [h] at this
theorem check_val (r : Int) (p : ByteArray) (x : Bool) (u v : Int) (h : checkG r p x u = v) (hs : p.size ≤ 9223372036854775807) (w : World) : Calls Tryd.prog 11 #[.agg #[.int .i64 r, .string p, .bool x, .int .i64 u]] w fun e w' => e = .returned (.int .i64 v) ∧ Ext w w' := by
  have := check_any r p x u w hs
  rwa [h] at this
theorem covers_val (r : Int) (p : ByteArray) (x : Bool) (u right : Int) (s : ByteArray) (v : Bool) (h : coversG r p x right s = v) (w : World) : Calls Tryd.prog 13 #[.agg #[.int .i64 r, .string p, .bool x, .int .i64 u], .int .i64 right, .string s] w fun e w' => e = .returned (.bool v) ∧ Ext w w' := by
  have := covers_any r p x u right s w
  rwa [h] at this
theorem narrow_val (r : Int) (p : ByteArray) (x : Bool) (u r' : Int) (p' : ByteArray) (x' : Bool) (u' : Int) (v : Bool) (h : narrowG r p x u r' p' x' u' = v) (w : World) : Calls Tryd.prog 12 #[.agg #[.int .i64 r, .string p, .bool x, .int .i64 u], .agg #[.int .i64 r', .string p', .bool x', .int .i64 u']] w fun e w' => e = .returned (.bool v) ∧ Ext w w' := by
  have := narrow_any r p x u r' p' x' u' w
  rwa [h] at this
set_option maxHeartbeats 1000000 in
set_option maxRecDepth 100000 in
theorem works_any (w : World) : Calls Tryd.prog 10 #[] w fun e w' => e = .returned (.bool true) ∧ Ext w w' := by
  go_enter Tryd.func10, Tryd.ntmps10
  go_wp2_with fail
  refine (open_any _).mono ?_
  rintro e w1 ⟨rfl, hb1⟩
  obtain ⟨W, hW, hE, b1, b2⟩ := box2 w1 #[.int .i64 2, .string ⟨#[111, 112, 101, 110]⟩, .bool false, .int .i64 9] #[.int .i64 2, .string ⟨#[111, 112, 101, 110, 46, 108, 111, 103]⟩, .bool true, .int .i64 5] 23 23
  have c0 := b1 0 _ rfl
  have d0 := b2 0 _ rfl
  have c1 := b1 1 _ rfl
  have d1 := b2 1 _ rfl
  have c2 := b1 2 _ rfl
  have d2 := b2 2 _ rfl
  have c3 := b1 3 _ rfl
  have d3 := b2 3 _ rfl
  have r0 := fun (w' : World) (h : Ext W w') => h.cellk c0
  have s0 := fun (w' : World) (h : Ext W w') => h.cellk d0
  have r1 := fun (w' : World) (h : Ext W w') => h.cellk c1
  have s1 := fun (w' : World) (h : Ext W w') => h.cellk d1
  have r2 := fun (w' : World) (h : Ext W w') => h.cellk c2
  have s2 := fun (w' : World) (h : Ext W w') => h.cellk d2
  have r3 := fun (w' : World) (h : Ext W w') => h.cellk c3
  have s3 := fun (w' : World) (h : Ext W w') => h.cellk d3
  clear b1 b2
  go_upto_region 3 with fail
  rw [← hW]
  have hX0 : Ext W W := Ext.refl W
  have hEE := hb1.trans hE
  clear hW hE hb1
  go_wp2_with fail
  refine (name_val ⟨#[111, 112, 101, 110, 46, 108, 111, 103, 45, 50]⟩ true (by decide +kernel) (by decide +kernel) _).mono ?_
  rintro e x0 ⟨rfl, hb⟩
  have hX1 := hX0.trans hb
  clear hb
  go_wp2_with fail
  refine (name_val ⟨#[50, 97]⟩ false (by decide +kernel) (by decide +kernel) _).mono ?_
  rintro e x1 ⟨rfl, hb⟩
  have hX2 := hX1.trans hb
  clear hb
  go_wp2_with fail
  refine (check_val 2 ⟨#[111, 112, 101, 110]⟩ false 9 0 (by decide +kernel) (by decide +kernel) _).mono ?_
  rintro e x2 ⟨rfl, hb⟩
  have hX3 := hX2.trans hb
  clear hb
  go_wp2_with fail
  refine (covers_val 2 ⟨#[111, 112, 101, 110]⟩ false 9 2 ⟨#[111, 112, 101, 110, 46, 108, 111, 103]⟩ true (by decide +kernel) _).mono ?_
  rintro e x3 ⟨rfl, hb⟩
  have hX4 := hX3.trans hb
  clear hb
  go_wp2_with fail
  refine (covers_val 2 ⟨#[111, 112, 101, 110]⟩ false 9 2 ⟨#[111, 112, 101]⟩ false (by decide +kernel) _).mono ?_
  rintro e x4 ⟨rfl, hb⟩
  have hX5 := hX4.trans hb
  clear hb
  go_wp2_with fail
  refine (covers_val 2 ⟨#[111, 112, 101, 110]⟩ false 9 1 ⟨#[111, 112, 101, 110]⟩ false (by decide +kernel) _).mono ?_
  rintro e x5 ⟨rfl, hb⟩
  have hX6 := hX5.trans hb
  clear hb
  go_wp2_with fail
  refine (narrow_val 2 ⟨#[111, 112, 101, 110]⟩ false 9 2 ⟨#[111, 112, 101, 110, 46, 108, 111, 103]⟩ true 5 true (by decide +kernel) _).mono ?_
  rintro e x6 ⟨rfl, hb⟩
  have hX7 := hX6.trans hb
  clear hb
  go_wp2_with fail
  refine (narrow_val 2 ⟨#[111, 112, 101, 110, 46, 108, 111, 103]⟩ true 5 2 ⟨#[111, 112, 101, 110]⟩ false 9 false (by decide +kernel) _).mono ?_
  rintro e x7 ⟨rfl, hb⟩
  have hX8 := hX7.trans hb
  clear hb
  go_wp2_with fail
  refine (covers_val 2 ⟨#[111, 112, 101, 110, 46, 108, 111, 103]⟩ true 5 2 ⟨#[111, 112, 101, 110, 46, 108, 111, 103, 46, 120]⟩ false (by decide +kernel) _).mono ?_
  rintro e x8 ⟨rfl, hb⟩
  have hX9 := hX8.trans hb
  clear hb
  go_wp2
  go_ret
  exact ⟨rfl, hEE.trans hX9⟩
end Go.Proofs.YtmdjndhebgnjoaaDoor
