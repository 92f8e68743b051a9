/- RightGrants: the walk. -/
import Derived.Test.YtmdjndhebgnjoaaDoorWorks
import Derived.Test.YtmdjndhebgnjoaaDoorRegion
import Derived.Test.YtmdjndhebgnjoaaDoorRightPure
namespace Go.Proofs.YtmdjndhebgnjoaaDoor
set_option linter.unusedVariables false
set_option linter.unusedSimpArgs false
open Go.RowKit Go.Shelf
attribute [local go_sem high] run_mx3
theorem whole_val (r : Int) (p : ByteArray) (x : Bool) (u : Int) (v : Bool) (h : wholeG p x = v) (w : World) : Calls Tryd.prog 19 #[.agg #[.int .i64 r, .string p, .bool x, .int .i64 u]] w fun e w' => e = .returned (.bool v) ∧ Ext w w' := by
  refine (whole_any r p x u w).mono ?_
  rintro e w' ⟨rfl, hb⟩
  rw [h]
  exact ⟨rfl, hb⟩
theorem refname_val (s : ByteArray) (v : Bool) (h : nm s.data.toList = v) (w : World) : Calls Tryd.prog 16 #[.string s] w fun e w' => e = .returned (.bool v) ∧ Ext w w' := by
  refine (refname_any s w).mono ?_
  rintro e w' ⟨rfl, hb⟩
  rw [h]
  exact ⟨rfl, hb ▸ Ext.refl _⟩
theorem refcheck_val (r : Int) (p : ByteArray) (x : Bool) (u : Int) (v : Int) (h : checkG r p x u = v) (hs : p.size ≤ 9223372036854775807) (w : World) : Calls Tryd.prog 17 #[.agg #[.int .i64 r, .string p, .bool x, .int .i64 u]] w fun e w' => e = .returned (.int .i64 v) ∧ Ext w w' := by
  refine (refcheck_any r p x u w hs).mono ?_
  rintro e w' ⟨rfl, hb⟩
  rw [h]
  exact ⟨rfl, hb⟩
theorem refwhole_val (r : Int) (p : ByteArray) (x : Bool) (u : Int) (v : Bool) (h : wholeG p x = v) (w : World) : Calls Tryd.prog 20 #[.agg #[.int .i64 r, .string p, .bool x, .int .i64 u]] w fun e w' => e = .returned (.bool v) ∧ Ext w w' := by
  refine (refwhole_any r p x u w).mono ?_
  rintro e w' ⟨rfl, hb⟩
  rw [h]
  exact ⟨rfl, hb⟩
theorem refcovers_val (r : Int) (p : ByteArray) (x : Bool) (u : Int) (q : Int) (s : ByteArray) (v : Bool) (h : coversG r p x q s = v) (hr : wfI r) (hq : wfI q) (hs : p.size ≤ 9223372036854775807) (w : World) : Calls Tryd.prog 18 #[.agg #[.int .i64 r, .string p, .bool x, .int .i64 u], .int .i64 q, .string s] w fun e w' => e = .returned (.bool v) ∧ Ext w w' := by
  refine (refcovers_any r p x u q s w hr hq hs).mono ?_
  rintro e w' ⟨rfl, hb⟩
  rw [h]
  exact ⟨rfl, hb⟩
theorem refnarrow_val (r : Int) (p : ByteArray) (x : Bool) (u : Int) (r' : Int) (p' : ByteArray) (x' : Bool) (u' : Int) (v : Bool) (h : narrowG r p x u r' p' x' u' = v) (hr : wfI r) (hq : wfI r') (hs : p.size ≤ 9223372036854775807) (w : World) : Calls Tryd.prog 21 #[.agg #[.int .i64 r, .string p, .bool x, .int .i64 u], .agg #[.int .i64 r', .string p', .bool x', .int .i64 u']] w fun e w' => e = .returned (.bool v) ∧ Ext w w' := by
  refine (refnarrow_any r p x u r' p' x' u' w hr hq hs).mono ?_
  rintro e w' ⟨rfl, hb⟩
  rw [h]
  exact ⟨rfl, hb⟩
set_option maxHeartbeats 1000000 in
set_option maxRecDepth 100000 in
theorem grants_long (ar : Int) (ap : ByteArray) (ax : Bool) (au : Int) (br : Int) (bp : ByteArray) (bx : Bool) (bu : Int) (q : Int) (s : ByteArray) (w : World) (hm : 4096 < mx3 (ap.size : Int) (bp.size : Int) (s.size : Int)) : Calls Tryd.prog 5 #[.agg #[.int .i64 ar, .string ap, .bool ax, .int .i64 au], .agg #[.int .i64 br, .string bp, .bool bx, .int .i64 bu], .int .i64 q, .string s] w fun e w' => e = .returned (.bool true) ∧ Ext w w' := by
  obtain ⟨W, hW, hE, b1, b2⟩ := box2 w #[.int .i64 ar, .string ap, .bool ax, .int .i64 au] #[.int .i64 br, .string bp, .bool bx, .int .i64 bu] 23 23
  have ac0 := b1 0 _ rfl
  have ak0 := fun (w' : World) (h : Ext W w') => h.cellk ac0
  have ac1 := b1 1 _ rfl
  have ak1 := fun (w' : World) (h : Ext W w') => h.cellk ac1
  have ac2 := b1 2 _ rfl
  have ak2 := fun (w' : World) (h : Ext W w') => h.cellk ac2
  have ac3 := b1 3 _ rfl
  have ak3 := fun (w' : World) (h : Ext W w') => h.cellk ac3
  have bc0 := b2 0 _ rfl
  have bk0 := fun (w' : World) (h : Ext W w') => h.cellk bc0
  have bc1 := b2 1 _ rfl
  have bk1 := fun (w' : World) (h : Ext W w') => h.cellk bc1
  have bc2 := b2 2 _ rfl
  have bk2 := fun (w' : World) (h : Ext W w') => h.cellk bc2
  have bc3 := b2 3 _ rfl
  have bk3 := fun (w' : World) (h : Ext W w') => h.cellk bc3
  have hX0 : Ext W W := Ext.refl W
  clear b1 b2
  go_enter Tryd.func5, Tryd.ntmps5
  go_upto_region 1 with fail
  rw [← hW]
  clear hW
  go_wp2_with (first | (go_at_call 10; (with_reducible refine (works_any _).mono ?_); rintro e w' ⟨rfl, hb⟩; have hX : Ext W w' := (by (repeat (first | assumption | exact Ext.refl _ | refine Ext.drew ?_ | refine Ext.alloc ?_ _ | refine Ext.drewN ?_ _ | refine Ext.trans ?_ (by assumption))))))
  go_ret
  exact ⟨rfl, by (repeat (first | assumption | exact Ext.refl _ | refine Ext.drew ?_ | refine Ext.alloc ?_ _ | refine Ext.drewN ?_ _ | refine Ext.trans ?_ (by assumption)))⟩
set_option maxHeartbeats 1000000 in
set_option maxRecDepth 100000 in
theorem grants_main (ar : Int) (ap : ByteArray) (ax : Bool) (au : Int) (br : Int) (bp : ByteArray) (bx : Bool) (bu : Int) (q : Int) (s : ByteArray) (w : World) (hm : ¬ 4096 < mx3 (ap.size : Int) (bp.size : Int) (s.size : Int)) (hs : s.size ≤ 9223372036854775807) (hap : ap.size ≤ 9223372036854775807) (hbp : bp.size ≤ 9223372036854775807) (wa : wfI ar) (wb : wfI br) (wq : wfI q) (n1 n2 c4 c5 e6 e7 e8 : Bool) (k3 : Int) (h1 : nm s.data.toList = n1) (h2 : nm ap.data.toList = n2) (h3 : checkG ar ap ax au = k3) (h4 : coversG ar ap ax q s = c4) (h5 : wholeG ap ax = c5) (h6 : narrowG ar ap ax au br bp bx bu = e6) (h7 : narrowG br bp bx bu ar ap ax au = e7) (h8 : narrowG ar ap ax au ar ap ax au = e8) : Calls Tryd.prog 5 #[.agg #[.int .i64 ar, .string ap, .bool ax, .int .i64 au], .agg #[.int .i64 br, .string bp, .bool bx, .int .i64 bu], .int .i64 q, .string s] w fun e w' => e = .returned (.bool true) ∧ Ext w w' := by
  obtain ⟨W, hW, hE, b1, b2⟩ := box2 w #[.int .i64 ar, .string ap, .bool ax, .int .i64 au] #[.int .i64 br, .string bp, .bool bx, .int .i64 bu] 23 23
  have ac0 := b1 0 _ rfl
  have ak0 := fun (w' : World) (h : Ext W w') => h.cellk ac0
  have ac1 := b1 1 _ rfl
  have ak1 := fun (w' : World) (h : Ext W w') => h.cellk ac1
  have ac2 := b1 2 _ rfl
  have ak2 := fun (w' : World) (h : Ext W w') => h.cellk ac2
  have ac3 := b1 3 _ rfl
  have ak3 := fun (w' : World) (h : Ext W w') => h.cellk ac3
  have bc0 := b2 0 _ rfl
  have bk0 := fun (w' : World) (h : Ext W w') => h.cellk bc0
  have bc1 := b2 1 _ rfl
  have bk1 := fun (w' : World) (h : Ext W w') => h.cellk bc1
  have bc2 := b2 2 _ rfl
  have bk2 := fun (w' : World) (h : Ext W w') => h.cellk bc2
  have bc3 := b2 3 _ rfl
  have bk3 := fun (w' : World) (h : Ext W w') => h.cellk bc3
  have hX0 : Ext W W := Ext.refl W
  clear b1 b2
  have hp := hap
  go_enter Tryd.func5, Tryd.ntmps5
  go_upto_region 1 with fail
  rw [← hW]
  clear hW
  go_wp2_with fail
  all_goals
    go_region_held3 (fun w' => Ext W w') (((repeat (first | assumption | exact Ext.refl _ | refine Ext.drew ?_ | refine Ext.drewN ?_ _ | refine Ext.alloc ?_ _ | (refine Ext.set ?_ (Ext.le (by assumption)) _) | (refine Ext.set ?_ (Nat.le_refl _) _) | refine Ext.trans ?_ (by assumption))); done)) (first | (go_at_call 14; (with_reducible refine (name_val _ _ h1 hs _).mono ?_); rintro e w' ⟨rfl, hb⟩; have hX : Ext W w' := (by (repeat (first | assumption | exact Ext.refl _ | refine Ext.drew ?_ | refine Ext.alloc ?_ _ | refine Ext.drewN ?_ _ | refine Ext.trans ?_ (by assumption))))) | (go_at_call 14; (with_reducible refine (name_val _ _ h2 hp _).mono ?_); rintro e w' ⟨rfl, hb⟩; have hX : Ext W w' := (by (repeat (first | assumption | exact Ext.refl _ | refine Ext.drew ?_ | refine Ext.alloc ?_ _ | refine Ext.drewN ?_ _ | refine Ext.trans ?_ (by assumption))))) | (go_at_call 16; (with_reducible refine (refname_val _ _ h1 _).mono ?_); rintro e w' ⟨rfl, hb⟩; have hX : Ext W w' := (by (repeat (first | assumption | exact Ext.refl _ | refine Ext.drew ?_ | refine Ext.alloc ?_ _ | refine Ext.drewN ?_ _ | refine Ext.trans ?_ (by assumption))))) | (go_at_call 16; (with_reducible refine (refname_val _ _ h2 _).mono ?_); rintro e w' ⟨rfl, hb⟩; have hX : Ext W w' := (by (repeat (first | assumption | exact Ext.refl _ | refine Ext.drew ?_ | refine Ext.alloc ?_ _ | refine Ext.drewN ?_ _ | refine Ext.trans ?_ (by assumption))))) | (go_at_call 11; (with_reducible refine (check_val _ _ _ _ _ h3 hp _).mono ?_); rintro e w' ⟨rfl, hb⟩; have hX : Ext W w' := (by (repeat (first | assumption | exact Ext.refl _ | refine Ext.drew ?_ | refine Ext.alloc ?_ _ | refine Ext.drewN ?_ _ | refine Ext.trans ?_ (by assumption))))) | (go_at_call 17; (with_reducible refine (refcheck_val _ _ _ _ _ h3 hp _).mono ?_); rintro e w' ⟨rfl, hb⟩; have hX : Ext W w' := (by (repeat (first | assumption | exact Ext.refl _ | refine Ext.drew ?_ | refine Ext.alloc ?_ _ | refine Ext.drewN ?_ _ | refine Ext.trans ?_ (by assumption))))))
    go_wp2_with fail
    go_region_held3 (fun w' => Ext W w') (((repeat (first | assumption | exact Ext.refl _ | refine Ext.drew ?_ | refine Ext.drewN ?_ _ | refine Ext.alloc ?_ _ | (refine Ext.set ?_ (Ext.le (by assumption)) _) | (refine Ext.set ?_ (Nat.le_refl _) _) | refine Ext.trans ?_ (by assumption))); done)) (first | (go_at_call 13; (with_reducible refine (covers_val _ _ _ _ _ _ _ h4 _).mono ?_); rintro e w' ⟨rfl, hb⟩; have hX : Ext W w' := (by (repeat (first | assumption | exact Ext.refl _ | refine Ext.drew ?_ | refine Ext.alloc ?_ _ | refine Ext.drewN ?_ _ | refine Ext.trans ?_ (by assumption))))) | (go_at_call 18; (with_reducible refine (refcovers_val _ _ _ _ _ _ _ h4 wa wq hp _).mono ?_); rintro e w' ⟨rfl, hb⟩; have hX : Ext W w' := (by (repeat (first | assumption | exact Ext.refl _ | refine Ext.drew ?_ | refine Ext.alloc ?_ _ | refine Ext.drewN ?_ _ | refine Ext.trans ?_ (by assumption))))) | (go_at_call 19; (with_reducible refine (whole_val _ _ _ _ _ h5 _).mono ?_); rintro e w' ⟨rfl, hb⟩; have hX : Ext W w' := (by (repeat (first | assumption | exact Ext.refl _ | refine Ext.drew ?_ | refine Ext.alloc ?_ _ | refine Ext.drewN ?_ _ | refine Ext.trans ?_ (by assumption))))) | (go_at_call 20; (with_reducible refine (refwhole_val _ _ _ _ _ h5 _).mono ?_); rintro e w' ⟨rfl, hb⟩; have hX : Ext W w' := (by (repeat (first | assumption | exact Ext.refl _ | refine Ext.drew ?_ | refine Ext.alloc ?_ _ | refine Ext.drewN ?_ _ | refine Ext.trans ?_ (by assumption))))))
    go_wp2_with fail
    go_region_held3 (fun w' => Ext W w') (((repeat (first | assumption | exact Ext.refl _ | refine Ext.drew ?_ | refine Ext.drewN ?_ _ | refine Ext.alloc ?_ _ | (refine Ext.set ?_ (Ext.le (by assumption)) _) | (refine Ext.set ?_ (Nat.le_refl _) _) | refine Ext.trans ?_ (by assumption))); done)) (first | (go_at_call 12; (with_reducible refine (narrow_val ar ap ax au br bp bx bu _ h6 _).mono ?_); rintro e w' ⟨rfl, hb⟩; have hX : Ext W w' := (by (repeat (first | assumption | exact Ext.refl _ | refine Ext.drew ?_ | refine Ext.alloc ?_ _ | refine Ext.drewN ?_ _ | refine Ext.trans ?_ (by assumption))))) | (go_at_call 21; (with_reducible refine (refnarrow_val ar ap ax au br bp bx bu _ h6 wa wb hap _).mono ?_); rintro e w' ⟨rfl, hb⟩; have hX : Ext W w' := (by (repeat (first | assumption | exact Ext.refl _ | refine Ext.drew ?_ | refine Ext.alloc ?_ _ | refine Ext.drewN ?_ _ | refine Ext.trans ?_ (by assumption))))) | (go_at_call 12; (with_reducible refine (narrow_val br bp bx bu ar ap ax au _ h7 _).mono ?_); rintro e w' ⟨rfl, hb⟩; have hX : Ext W w' := (by (repeat (first | assumption | exact Ext.refl _ | refine Ext.drew ?_ | refine Ext.alloc ?_ _ | refine Ext.drewN ?_ _ | refine Ext.trans ?_ (by assumption))))) | (go_at_call 21; (with_reducible refine (refnarrow_val br bp bx bu ar ap ax au _ h7 wb wa hbp _).mono ?_); rintro e w' ⟨rfl, hb⟩; have hX : Ext W w' := (by (repeat (first | assumption | exact Ext.refl _ | refine Ext.drew ?_ | refine Ext.alloc ?_ _ | refine Ext.drewN ?_ _ | refine Ext.trans ?_ (by assumption))))) | (go_at_call 12; (with_reducible refine (narrow_val ar ap ax au ar ap ax au _ h8 _).mono ?_); rintro e w' ⟨rfl, hb⟩; have hX : Ext W w' := (by (repeat (first | assumption | exact Ext.refl _ | refine Ext.drew ?_ | refine Ext.alloc ?_ _ | refine Ext.drewN ?_ _ | refine Ext.trans ?_ (by assumption))))) | (go_at_call 21; (with_reducible refine (refnarrow_val ar ap ax au ar ap ax au _ h8 wa wa hap _).mono ?_); rintro e w' ⟨rfl, hb⟩; have hX : Ext W w' := (by (repeat (first | assumption | exact Ext.refl _ | refine Ext.drew ?_ | refine Ext.alloc ?_ _ | refine Ext.drewN ?_ _ | refine Ext.trans ?_ (by assumption))))) | (go_at_call 10; (with_reducible refine (works_any _).mono ?_); rintro e w' ⟨rfl, hb⟩; have hX : Ext W w' := (by (repeat (first | assumption | exact Ext.refl _ | refine Ext.drew ?_ | refine Ext.alloc ?_ _ | refine Ext.drewN ?_ _ | refine Ext.trans ?_ (by assumption))))))
    go_wp2_with (first | (go_at_call 10; (with_reducible refine (works_any _).mono ?_); rintro e w' ⟨rfl, hb⟩; have hX : Ext W w' := (by (repeat (first | assumption | exact Ext.refl _ | refine Ext.drew ?_ | refine Ext.alloc ?_ _ | refine Ext.drewN ?_ _ | refine Ext.trans ?_ (by assumption))))))
    go_ret
    exact ⟨rfl, by (repeat (first | assumption | exact Ext.refl _ | refine Ext.drew ?_ | refine Ext.alloc ?_ _ | refine Ext.drewN ?_ _ | refine Ext.trans ?_ (by assumption)))⟩
theorem grants_walk (ar : Int) (ap : ByteArray) (ax : Bool) (au : Int) (br : Int) (bp : ByteArray) (bx : Bool) (bu : Int) (q : Int) (s : ByteArray) (w : World) (hs : s.size ≤ 9223372036854775807) (hap : ap.size ≤ 9223372036854775807) (hbp : bp.size ≤ 9223372036854775807) (wa : wfI ar) (wb : wfI br) (wq : wfI q) : Calls Tryd.prog 5 #[.agg #[.int .i64 ar, .string ap, .bool ax, .int .i64 au], .agg #[.int .i64 br, .string bp, .bool bx, .int .i64 bu], .int .i64 q, .string s] w fun e w' => e = .returned (.bool true) ∧ Ext w w' := by
  by_cases hm : 4096 < mx3 (ap.size : Int) (bp.size : Int) (s.size : Int)
  · exact grants_long ar ap ax au br bp bx bu q s w hm
  · exact grants_main ar ap ax au br bp bx bu q s w hm hs hap hbp wa wb wq _ _ _ _ _ _ _ _ rfl rfl rfl rfl rfl rfl rfl rfl
end Go.Proofs.YtmdjndhebgnjoaaDoor
