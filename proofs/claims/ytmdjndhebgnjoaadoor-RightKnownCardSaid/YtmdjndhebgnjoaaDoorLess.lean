/- RightLess: the walk. -/
import Derived.Test.YtmdjndhebgnjoaaDoorWorks
import Derived.Test.YtmdjndhebgnjoaaDoorRegion
import Derived.Test.YtmdjndhebgnjoaaDoorRightPure
import Derived.Test.YtmdjndhebgnjoaaDoorGrants
namespace Go.Proofs.YtmdjndhebgnjoaaDoor
set_option linter.unusedVariables false
set_option linter.unusedSimpArgs false
open Go.RowKit Go.Shelf
attribute [local go_sem high] run_mx3
set_option maxHeartbeats 1000000 in
set_option maxRecDepth 100000 in
theorem lasts_val (ar : Int) (ap : ByteArray) (ax : Bool) (au : Int) (c : Int) (v : Bool) (h : lastsG au c = v) (w : World) : Calls Tryd.prog 22 #[.agg #[.int .i64 ar, .string ap, .bool ax, .int .i64 au], .int .i64 c] w fun e w' => e = .returned (.bool v) ∧ Ext w w' := by
  unfold lastsG at h
  obtain ⟨W, hW, hE, b1⟩ := box1 w #[.int .i64 ar, .string ap, .bool ax, .int .i64 au] 23
  have ac0 := b1 0 _ rfl
  have ak0 := fun (w' : World) (h : Ext W w') => h.cellk ac0
  have ac1 := b1 1 _ rfl
  have ak1 := fun (w' : World) (h : Ext W w') => h.cellk ac1
  have ac2 := b1 2 _ rfl
  have ak2 := fun (w' : World) (h : Ext W w') => h.cellk ac2
  have ac3 := b1 3 _ rfl
  have ak3 := fun (w' : World) (h : Ext W w') => h.cellk ac3
  have hX0 : Ext W W := Ext.refl W
  clear b1
  go_enter Tryd.func22, Tryd.ntmps22
  go_upto_region 1 with fail
  rw [← hW]
  clear hW
  by_cases h0 : au = 0
  · subst h0
    go_wp2_with fail
    go_ret
    exact ⟨by simp_all, by (repeat (first | assumption | exact Ext.refl _ | refine Ext.drew ?_ | refine Ext.alloc ?_ _ | refine Ext.drewN ?_ _ | refine Ext.trans ?_ (by assumption)))⟩
  · have h0' : decide (au = 0) = false := by simpa using h0
    go_wp2_with fail
    go_ret
    exact ⟨by simp_all, by (repeat (first | assumption | exact Ext.refl _ | refine Ext.drew ?_ | refine Ext.alloc ?_ _ | refine Ext.drewN ?_ _ | refine Ext.trans ?_ (by assumption)))⟩
set_option maxHeartbeats 1000000 in
set_option maxRecDepth 100000 in
theorem less_long (ar : Int) (ap : ByteArray) (ax : Bool) (au : Int) (br : Int) (bp : ByteArray) (bx : Bool) (bu : Int) (q : Int) (s : ByteArray) (c : Int) (w : World) (hm : 4096 < mx3 (ap.size : Int) (bp.size : Int) (s.size : Int)) : Calls Tryd.prog 6 #[.agg #[.int .i64 ar, .string ap, .bool ax, .int .i64 au], .agg #[.int .i64 br, .string bp, .bool bx, .int .i64 bu], .int .i64 q, .string s, .int .i64 c] w fun e w' => e = .returned (.bool true) ∧ Ext w w' := by
  obtain ⟨W, hW, hE, b1, b2⟩ := box2 w #[.int .i64 ar, .string ap, .bool ax, .int .i64 au] #[.int .i64 br, .string bp, .bool bx, .int .i64 bu] 23 23
  have ac0 := b1 0 _ rfl
  have ak0 := fun (w' : World) (h : Ext W w') => h.cellk ac0
  have ac1 := b1 1 _ rfl
  have ak1 := fun (w' : World) (h : Ext W w') => h.cellk ac1
  have ac2 := b1 2 _ rfl
  have ak2 := fun (w' : World) (h : Ext W w') => h.cellk ac2
  have ac3 := b1 3 _ rfl
  have ak3 := fun (w' : World) (h : Ext W w') => h.cellk ac3
  have bc0 := b2 0 _ rfl
  have bk0 := fun (w' : World) (h : Ext W w') => h.cellk bc0
  have bc1 := b2 1 _ rfl
  have bk1 := fun (w' : World) (h : Ext W w') => h.cellk bc1
  have bc2 := b2 2 _ rfl
  have bk2 := fun (w' : World) (h : Ext W w') => h.cellk bc2
  have bc3 := b2 3 _ rfl
  have bk3 := fun (w' : World) (h : Ext W w') => h.cellk bc3
  have hX0 : Ext W W := Ext.refl W
  clear b1 b2
  go_enter Tryd.func6, Tryd.ntmps6
  go_upto_region 1 with fail
  rw [← hW]
  clear hW
  go_wp2_with (first | (go_at_call 10; (with_reducible refine (works_any _).mono ?_); rintro e w' ⟨rfl, hb⟩; have hX : Ext W w' := (by (repeat (first | assumption | exact Ext.refl _ | refine Ext.drew ?_ | refine Ext.alloc ?_ _ | refine Ext.drewN ?_ _ | refine Ext.trans ?_ (by assumption))))))
  all_goals go_ret
  all_goals exact ⟨rfl, by (repeat (first | assumption | exact Ext.refl _ | refine Ext.drew ?_ | refine Ext.alloc ?_ _ | refine Ext.drewN ?_ _ | refine Ext.trans ?_ (by assumption)))⟩
set_option maxHeartbeats 1000000 in
set_option maxRecDepth 100000 in
theorem less_not (ar : Int) (ap : ByteArray) (ax : Bool) (au : Int) (br : Int) (bp : ByteArray) (bx : Bool) (bu : Int) (q : Int) (s : ByteArray) (c : Int) (w : World) (hm : ¬ 4096 < mx3 (ap.size : Int) (bp.size : Int) (s.size : Int)) (hn : narrowG ar ap ax au br bp bx bu = false) : Calls Tryd.prog 6 #[.agg #[.int .i64 ar, .string ap, .bool ax, .int .i64 au], .agg #[.int .i64 br, .string bp, .bool bx, .int .i64 bu], .int .i64 q, .string s, .int .i64 c] w fun e w' => e = .returned (.bool true) ∧ Ext w w' := by
  obtain ⟨W, hW, hE, b1, b2⟩ := box2 w #[.int .i64 ar, .string ap, .bool ax, .int .i64 au] #[.int .i64 br, .string bp, .bool bx, .int .i64 bu] 23 23
  have ac0 := b1 0 _ rfl
  have ak0 := fun (w' : World) (h : Ext W w') => h.cellk ac0
  have ac1 := b1 1 _ rfl
  have ak1 := fun (w' : World) (h : Ext W w') => h.cellk ac1
  have ac2 := b1 2 _ rfl
  have ak2 := fun (w' : World) (h : Ext W w') => h.cellk ac2
  have ac3 := b1 3 _ rfl
  have ak3 := fun (w' : World) (h : Ext W w') => h.cellk ac3
  have bc0 := b2 0 _ rfl
  have bk0 := fun (w' : World) (h : Ext W w') => h.cellk bc0
  have bc1 := b2 1 _ rfl
  have bk1 := fun (w' : World) (h : Ext W w') => h.cellk bc1
  have bc2 := b2 2 _ rfl
  have bk2 := fun (w' : World) (h : Ext W w') => h.cellk bc2
  have bc3 := b2 3 _ rfl
  have bk3 := fun (w' : World) (h : Ext W w') => h.cellk bc3
  have hX0 : Ext W W := Ext.refl W
  clear b1 b2
  go_enter Tryd.func6, Tryd.ntmps6
  go_upto_region 1 with fail
  rw [← hW]
  clear hW
  go_wp2_with (first | (go_at_call 12; (with_reducible refine (narrow_val ar ap ax au br bp bx bu false hn _).mono ?_); rintro e w' ⟨rfl, hb⟩; have hX : Ext W w' := (by (repeat (first | assumption | exact Ext.refl _ | refine Ext.drew ?_ | refine Ext.alloc ?_ _ | refine Ext.drewN ?_ _ | refine Ext.trans ?_ (by assumption))))) | (go_at_call 10; (with_reducible refine (works_any _).mono ?_); rintro e w' ⟨rfl, hb⟩; have hX : Ext W w' := (by (repeat (first | assumption | exact Ext.refl _ | refine Ext.drew ?_ | refine Ext.alloc ?_ _ | refine Ext.drewN ?_ _ | refine Ext.trans ?_ (by assumption))))))
  all_goals go_ret
  all_goals exact ⟨rfl, by (repeat (first | assumption | exact Ext.refl _ | refine Ext.drew ?_ | refine Ext.alloc ?_ _ | refine Ext.drewN ?_ _ | refine Ext.trans ?_ (by assumption)))⟩
set_option maxHeartbeats 1000000 in
set_option maxRecDepth 100000 in
theorem less_000 (ar : Int) (ap : ByteArray) (ax : Bool) (au : Int) (br : Int) (bp : ByteArray) (bx : Bool) (bu : Int) (q : Int) (s : ByteArray) (c : Int) (w : World) (hm : ¬ 4096 < mx3 (ap.size : Int) (bp.size : Int) (s.size : Int)) (hn : narrowG ar ap ax au br bp bx bu = true) (hcb : coversG br bp bx q s = false) (hwb : wholeG bp bx = false) (hlb : lastsG bu c = false) : Calls Tryd.prog 6 #[.agg #[.int .i64 ar, .string ap, .bool ax, .int .i64 au], .agg #[.int .i64 br, .string bp, .bool bx, .int .i64 bu], .int .i64 q, .string s, .int .i64 c] w fun e w' => e = .returned (.bool true) ∧ Ext w w' := by
  obtain ⟨W, hW, hE, b1, b2⟩ := box2 w #[.int .i64 ar, .string ap, .bool ax, .int .i64 au] #[.int .i64 br, .string bp, .bool bx, .int .i64 bu] 23 23
  have ac0 := b1 0 _ rfl
  have ak0 := fun (w' : World) (h : Ext W w') => h.cellk ac0
  have ac1 := b1 1 _ rfl
  have ak1 := fun (w' : World) (h : Ext W w') => h.cellk ac1
  have ac2 := b1 2 _ rfl
  have ak2 := fun (w' : World) (h : Ext W w') => h.cellk ac2
  have ac3 := b1 3 _ rfl
  have ak3 := fun (w' : World) (h : Ext W w') => h.cellk ac3
  have bc0 := b2 0 _ rfl
  have bk0 := fun (w' : World) (h : Ext W w') => h.cellk bc0
  have bc1 := b2 1 _ rfl
  have bk1 := fun (w' : World) (h : Ext W w') => h.cellk bc1
  have bc2 := b2 2 _ rfl
  have bk2 := fun (w' : World) (h : Ext W w') => h.cellk bc2
  have bc3 := b2 3 _ rfl
  have bk3 := fun (w' : World) (h : Ext W w') => h.cellk bc3
  have hX0 : Ext W W := Ext.refl W
  clear b1 b2
  go_enter Tryd.func6, Tryd.ntmps6
  go_upto_region 1 with fail
  rw [← hW]
  clear hW
  go_wp2_with (first | (go_at_call 12; (with_reducible refine (narrow_val ar ap ax au br bp bx bu true hn _).mono ?_); rintro e w' ⟨rfl, hb⟩; have hX : Ext W w' := (by (repeat (first | assumption | exact Ext.refl _ | refine Ext.drew ?_ | refine Ext.alloc ?_ _ | refine Ext.drewN ?_ _ | refine Ext.trans ?_ (by assumption))))) | (go_at_call 13; (with_reducible refine (covers_val br bp bx bu q s false hcb _).mono ?_); rintro e w' ⟨rfl, hb⟩; have hX : Ext W w' := (by (repeat (first | assumption | exact Ext.refl _ | refine Ext.drew ?_ | refine Ext.alloc ?_ _ | refine Ext.drewN ?_ _ | refine Ext.trans ?_ (by assumption))))) | (go_at_call 19; (with_reducible refine (whole_val br bp bx bu false hwb _).mono ?_); rintro e w' ⟨rfl, hb⟩; have hX : Ext W w' := (by (repeat (first | assumption | exact Ext.refl _ | refine Ext.drew ?_ | refine Ext.alloc ?_ _ | refine Ext.drewN ?_ _ | refine Ext.trans ?_ (by assumption))))) | (go_at_call 22; (with_reducible refine (lasts_val br bp bx bu c false hlb _).mono ?_); rintro e w' ⟨rfl, hb⟩; have hX : Ext W w' := (by (repeat (first | assumption | exact Ext.refl _ | refine Ext.drew ?_ | refine Ext.alloc ?_ _ | refine Ext.drewN ?_ _ | refine Ext.trans ?_ (by assumption))))) | (go_at_call 10; (with_reducible refine (works_any _).mono ?_); rintro e w' ⟨rfl, hb⟩; have hX : Ext W w' := (by (repeat (first | assumption | exact Ext.refl _ | refine Ext.drew ?_ | refine Ext.alloc ?_ _ | refine Ext.drewN ?_ _ | refine Ext.trans ?_ (by assumption))))))
  all_goals go_ret
  all_goals exact ⟨rfl, by (repeat (first | assumption | exact Ext.refl _ | refine Ext.drew ?_ | refine Ext.alloc ?_ _ | refine Ext.drewN ?_ _ | refine Ext.trans ?_ (by assumption)))⟩
set_option maxHeartbeats 1000000 in
set_option maxRecDepth 100000 in
theorem less_001 (ar : Int) (ap : ByteArray) (ax : Bool) (au : Int) (br : Int) (bp : ByteArray) (bx : Bool) (bu : Int) (q : Int) (s : ByteArray) (c : Int) (w : World) (hm : ¬ 4096 < mx3 (ap.size : Int) (bp.size : Int) (s.size : Int)) (hn : narrowG ar ap ax au br bp bx bu = true) (hcb : coversG br bp bx q s = false) (hwb : wholeG bp bx = false) (hlb : lastsG bu c = true) (hla : lastsG au c = true) : Calls Tryd.prog 6 #[.agg #[.int .i64 ar, .string ap, .bool ax, .int .i64 au], .agg #[.int .i64 br, .string bp, .bool bx, .int .i64 bu], .int .i64 q, .string s, .int .i64 c] w fun e w' => e = .returned (.bool true) ∧ Ext w w' := by
  obtain ⟨W, hW, hE, b1, b2⟩ := box2 w #[.int .i64 ar, .string ap, .bool ax, .int .i64 au] #[.int .i64 br, .string bp, .bool bx, .int .i64 bu] 23 23
  have ac0 := b1 0 _ rfl
  have ak0 := fun (w' : World) (h : Ext W w') => h.cellk ac0
  have ac1 := b1 1 _ rfl
  have ak1 := fun (w' : World) (h : Ext W w') => h.cellk ac1
  have ac2 := b1 2 _ rfl
  have ak2 := fun (w' : World) (h : Ext W w') => h.cellk ac2
  have ac3 := b1 3 _ rfl
  have ak3 := fun (w' : World) (h : Ext W w') => h.cellk ac3
  have bc0 := b2 0 _ rfl
  have bk0 := fun (w' : World) (h : Ext W w') => h.cellk bc0
  have bc1 := b2 1 _ rfl
  have bk1 := fun (w' : World) (h : Ext W w') => h.cellk bc1
  have bc2 := b2 2 _ rfl
  have bk2 := fun (w' : World) (h : Ext W w') => h.cellk bc2
  have bc3 := b2 3 _ rfl
  have bk3 := fun (w' : World) (h : Ext W w') => h.cellk bc3
  have hX0 : Ext W W := Ext.refl W
  clear b1 b2
  go_enter Tryd.func6, Tryd.ntmps6
  go_upto_region 1 with fail
  rw [← hW]
  clear hW
  go_wp2_with (first | (go_at_call 12; (with_reducible refine (narrow_val ar ap ax au br bp bx bu true hn _).mono ?_); rintro e w' ⟨rfl, hb⟩; have hX : Ext W w' := (by (repeat (first | assumption | exact Ext.refl _ | refine Ext.drew ?_ | refine Ext.alloc ?_ _ | refine Ext.drewN ?_ _ | refine Ext.trans ?_ (by assumption))))) | (go_at_call 13; (with_reducible refine (covers_val br bp bx bu q s false hcb _).mono ?_); rintro e w' ⟨rfl, hb⟩; have hX : Ext W w' := (by (repeat (first | assumption | exact Ext.refl _ | refine Ext.drew ?_ | refine Ext.alloc ?_ _ | refine Ext.drewN ?_ _ | refine Ext.trans ?_ (by assumption))))) | (go_at_call 19; (with_reducible refine (whole_val br bp bx bu false hwb _).mono ?_); rintro e w' ⟨rfl, hb⟩; have hX : Ext W w' := (by (repeat (first | assumption | exact Ext.refl _ | refine Ext.drew ?_ | refine Ext.alloc ?_ _ | refine Ext.drewN ?_ _ | refine Ext.trans ?_ (by assumption))))) | (go_at_call 22; (with_reducible refine (lasts_val br bp bx bu c true hlb _).mono ?_); rintro e w' ⟨rfl, hb⟩; have hX : Ext W w' := (by (repeat (first | assumption | exact Ext.refl _ | refine Ext.drew ?_ | refine Ext.alloc ?_ _ | refine Ext.drewN ?_ _ | refine Ext.trans ?_ (by assumption))))) | (go_at_call 10; (with_reducible refine (works_any _).mono ?_); rintro e w' ⟨rfl, hb⟩; have hX : Ext W w' := (by (repeat (first | assumption | exact Ext.refl _ | refine Ext.drew ?_ | refine Ext.alloc ?_ _ | refine Ext.drewN ?_ _ | refine Ext.trans ?_ (by assumption))))) | (go_at_call 22; (with_reducible refine (lasts_val ar ap ax au c true hla _).mono ?_); rintro e w' ⟨rfl, hb⟩; have hX : Ext W w' := (by (repeat (first | assumption | exact Ext.refl _ | refine Ext.drew ?_ | refine Ext.alloc ?_ _ | refine Ext.drewN ?_ _ | refine Ext.trans ?_ (by assumption))))))
  all_goals go_ret
  all_goals exact ⟨rfl, by (repeat (first | assumption | exact Ext.refl _ | refine Ext.drew ?_ | refine Ext.alloc ?_ _ | refine Ext.drewN ?_ _ | refine Ext.trans ?_ (by assumption)))⟩
set_option maxHeartbeats 1000000 in
set_option maxRecDepth 100000 in
theorem less_010 (ar : Int) (ap : ByteArray) (ax : Bool) (au : Int) (br : Int) (bp : ByteArray) (bx : Bool) (bu : Int) (q : Int) (s : ByteArray) (c : Int) (w : World) (hm : ¬ 4096 < mx3 (ap.size : Int) (bp.size : Int) (s.size : Int)) (hn : narrowG ar ap ax au br bp bx bu = true) (hcb : coversG br bp bx q s = false) (hwb : wholeG bp bx = true) (hlb : lastsG bu c = false) (hwa : wholeG ap ax = true) : Calls Tryd.prog 6 #[.agg #[.int .i64 ar, .string ap, .bool ax, .int .i64 au], .agg #[.int .i64 br, .string bp, .bool bx, .int .i64 bu], .int .i64 q, .string s, .int .i64 c] w fun e w' => e = .returned (.bool true) ∧ Ext w w' := by
  obtain ⟨W, hW, hE, b1, b2⟩ := box2 w #[.int .i64 ar, .string ap, .bool ax, .int .i64 au] #[.int .i64 br, .string bp, .bool bx, .int .i64 bu] 23 23
  have ac0 := b1 0 _ rfl
  have ak0 := fun (w' : World) (h : Ext W w') => h.cellk ac0
  have ac1 := b1 1 _ rfl
  have ak1 := fun (w' : World) (h : Ext W w') => h.cellk ac1
  have ac2 := b1 2 _ rfl
  have ak2 := fun (w' : World) (h : Ext W w') => h.cellk ac2
  have ac3 := b1 3 _ rfl
  have ak3 := fun (w' : World) (h : Ext W w') => h.cellk ac3
  have bc0 := b2 0 _ rfl
  have bk0 := fun (w' : World) (h : Ext W w') => h.cellk bc0
  have bc1 := b2 1 _ rfl
  have bk1 := fun (w' : World) (h : Ext W w') => h.cellk bc1
  have bc2 := b2 2 _ rfl
  have bk2 := fun (w' : World) (h : Ext W w') => h.cellk bc2
  have bc3 := b2 3 _ rfl
  have bk3 := fun (w' : World) (h : Ext W w') => h.cellk bc3
  have hX0 : Ext W W := Ext.refl W
  clear b1 b2
  go_enter Tryd.func6, Tryd.ntmps6
  go_upto_region 1 with fail
  rw [← hW]
  clear hW
  go_wp2_with (first | (go_at_call 12; (with_reducible refine (narrow_val ar ap ax au br bp bx bu true hn _).mono ?_); rintro e w' ⟨rfl, hb⟩; have hX : Ext W w' := (by (repeat (first | assumption | exact Ext.refl _ | refine Ext.drew ?_ | refine Ext.alloc ?_ _ | refine Ext.drewN ?_ _ | refine Ext.trans ?_ (by assumption))))) | (go_at_call 13; (with_reducible refine (covers_val br bp bx bu q s false hcb _).mono ?_); rintro e w' ⟨rfl, hb⟩; have hX : Ext W w' := (by (repeat (first | assumption | exact Ext.refl _ | refine Ext.drew ?_ | refine Ext.alloc ?_ _ | refine Ext.drewN ?_ _ | refine Ext.trans ?_ (by assumption))))) | (go_at_call 19; (with_reducible refine (whole_val br bp bx bu true hwb _).mono ?_); rintro e w' ⟨rfl, hb⟩; have hX : Ext W w' := (by (repeat (first | assumption | exact Ext.refl _ | refine Ext.drew ?_ | refine Ext.alloc ?_ _ | refine Ext.drewN ?_ _ | refine Ext.trans ?_ (by assumption))))) | (go_at_call 22; (with_reducible refine (lasts_val br bp bx bu c false hlb _).mono ?_); rintro e w' ⟨rfl, hb⟩; have hX : Ext W w' := (by (repeat (first | assumption | exact Ext.refl _ | refine Ext.drew ?_ | refine Ext.alloc ?_ _ | refine Ext.drewN ?_ _ | refine Ext.trans ?_ (by assumption))))) | (go_at_call 10; (with_reducible refine (works_any _).mono ?_); rintro e w' ⟨rfl, hb⟩; have hX : Ext W w' := (by (repeat (first | assumption | exact Ext.refl _ | refine Ext.drew ?_ | refine Ext.alloc ?_ _ | refine Ext.drewN ?_ _ | refine Ext.trans ?_ (by assumption))))) | (go_at_call 19; (with_reducible refine (whole_val ar ap ax au true hwa _).mono ?_); rintro e w' ⟨rfl, hb⟩; have hX : Ext W w' := (by (repeat (first | assumption | exact Ext.refl _ | refine Ext.drew ?_ | refine Ext.alloc ?_ _ | refine Ext.drewN ?_ _ | refine Ext.trans ?_ (by assumption))))))
  all_goals go_ret
  all_goals exact ⟨rfl, by (repeat (first | assumption | exact Ext.refl _ | refine Ext.drew ?_ | refine Ext.alloc ?_ _ | refine Ext.drewN ?_ _ | refine Ext.trans ?_ (by assumption)))⟩
set_option maxHeartbeats 1000000 in
set_option maxRecDepth 100000 in
theorem less_011 (ar : Int) (ap : ByteArray) (ax : Bool) (au : Int) (br : Int) (bp : ByteArray) (bx : Bool) (bu : Int) (q : Int) (s : ByteArray) (c : Int) (w : World) (hm : ¬ 4096 < mx3 (ap.size : Int) (bp.size : Int) (s.size : Int)) (hn : narrowG ar ap ax au br bp bx bu = true) (hcb : coversG br bp bx q s = false) (hwb : wholeG bp bx = true) (hlb : lastsG bu c = true) (hwa : wholeG ap ax = true) (hla : lastsG au c = true) : Calls Tryd.prog 6 #[.agg #[.int .i64 ar, .string ap, .bool ax, .int .i64 au], .agg #[.int .i64 br, .string bp, .bool bx, .int .i64 bu], .int .i64 q, .string s, .int .i64 c] w fun e w' => e = .returned (.bool true) ∧ Ext w w' := by
  obtain ⟨W, hW, hE, b1, b2⟩ := box2 w #[.int .i64 ar, .string ap, .bool ax, .int .i64 au] #[.int .i64 br, .string bp, .bool bx, .int .i64 bu] 23 23
  have ac0 := b1 0 _ rfl
  have ak0 := fun (w' : World) (h : Ext W w') => h.cellk ac0
  have ac1 := b1 1 _ rfl
  have ak1 := fun (w' : World) (h : Ext W w') => h.cellk ac1
  have ac2 := b1 2 _ rfl
  have ak2 := fun (w' : World) (h : Ext W w') => h.cellk ac2
  have ac3 := b1 3 _ rfl
  have ak3 := fun (w' : World) (h : Ext W w') => h.cellk ac3
  have bc0 := b2 0 _ rfl
  have bk0 := fun (w' : World) (h : Ext W w') => h.cellk bc0
  have bc1 := b2 1 _ rfl
  have bk1 := fun (w' : World) (h : Ext W w') => h.cellk bc1
  have bc2 := b2 2 _ rfl
  have bk2 := fun (w' : World) (h : Ext W w') => h.cellk bc2
  have bc3 := b2 3 _ rfl
  have bk3 := fun (w' : World) (h : Ext W w') => h.cellk bc3
  have hX0 : Ext W W := Ext.refl W
  clear b1 b2
  go_enter Tryd.func6, Tryd.ntmps6
  go_upto_region 1 with fail
  rw [← hW]
  clear hW
  go_wp2_with (first | (go_at_call 12; (with_reducible refine (narrow_val ar ap ax au br bp bx bu true hn _).mono ?_); rintro e w' ⟨rfl, hb⟩; have hX : Ext W w' := (by (repeat (first | assumption | exact Ext.refl _ | refine Ext.drew ?_ | refine Ext.alloc ?_ _ | refine Ext.drewN ?_ _ | refine Ext.trans ?_ (by assumption))))) | (go_at_call 13; (with_reducible refine (covers_val br bp bx bu q s false hcb _).mono ?_); rintro e w' ⟨rfl, hb⟩; have hX : Ext W w' := (by (repeat (first | assumption | exact Ext.refl _ | refine Ext.drew ?_ | refine Ext.alloc ?_ _ | refine Ext.drewN ?_ _ | refine Ext.trans ?_ (by assumption))))) | (go_at_call 19; (with_reducible refine (whole_val br bp bx bu true hwb _).mono ?_); rintro e w' ⟨rfl, hb⟩; have hX : Ext W w' := (by (repeat (first | assumption | exact Ext.refl _ | refine Ext.drew ?_ | refine Ext.alloc ?_ _ | refine Ext.drewN ?_ _ | refine Ext.trans ?_ (by assumption))))) | (go_at_call 22; (with_reducible refine (lasts_val br bp bx bu c true hlb _).mono ?_); rintro e w' ⟨rfl, hb⟩; have hX : Ext W w' := (by (repeat (first | assumption | exact Ext.refl _ | refine Ext.drew ?_ | refine Ext.alloc ?_ _ | refine Ext.drewN ?_ _ | refine Ext.trans ?_ (by assumption))))) | (go_at_call 10; (with_reducible refine (works_any _).mono ?_); rintro e w' ⟨rfl, hb⟩; have hX : Ext W w' := (by (repeat (first | assumption | exact Ext.refl _ | refine Ext.drew ?_ | refine Ext.alloc ?_ _ | refine Ext.drewN ?_ _ | refine Ext.trans ?_ (by assumption))))) | (go_at_call 19; (with_reducible refine (whole_val ar ap ax au true hwa _).mono ?_); rintro e w' ⟨rfl, hb⟩; have hX : Ext W w' := (by (repeat (first | assumption | exact Ext.refl _ | refine Ext.drew ?_ | refine Ext.alloc ?_ _ | refine Ext.drewN ?_ _ | refine Ext.trans ?_ (by assumption))))) | (go_at_call 22; (with_reducible refine (lasts_val ar ap ax au c true hla _).mono ?_); rintro e w' ⟨rfl, hb⟩; have hX : Ext W w' := (by (repeat (first | assumption | exact Ext.refl _ | refine Ext.drew ?_ | refine Ext.alloc ?_ _ | refine Ext.drewN ?_ _ | refine Ext.trans ?_ (by assumption))))))
  all_goals go_ret
  all_goals exact ⟨rfl, by (repeat (first | assumption | exact Ext.refl _ | refine Ext.drew ?_ | refine Ext.alloc ?_ _ | refine Ext.drewN ?_ _ | refine Ext.trans ?_ (by assumption)))⟩
set_option maxHeartbeats 1000000 in
set_option maxRecDepth 100000 in
theorem less_100 (ar : Int) (ap : ByteArray) (ax : Bool) (au : Int) (br : Int) (bp : ByteArray) (bx : Bool) (bu : Int) (q : Int) (s : ByteArray) (c : Int) (w : World) (hm : ¬ 4096 < mx3 (ap.size : Int) (bp.size : Int) (s.size : Int)) (hn : narrowG ar ap ax au br bp bx bu = true) (hcb : coversG br bp bx q s = true) (hwb : wholeG bp bx = false) (hlb : lastsG bu c = false) (hca : coversG ar ap ax q s = true) : Calls Tryd.prog 6 #[.agg #[.int .i64 ar, .string ap, .bool ax, .int .i64 au], .agg #[.int .i64 br, .string bp, .bool bx, .int .i64 bu], .int .i64 q, .string s, .int .i64 c] w fun e w' => e = .returned (.bool true) ∧ Ext w w' := by
  obtain ⟨W, hW, hE, b1, b2⟩ := box2 w #[.int .i64 ar, .string ap, .bool ax, .int .i64 au] #[.int .i64 br, .string bp, .bool bx, .int .i64 bu] 23 23
  have ac0 := b1 0 _ rfl
  have ak0 := fun (w' : World) (h : Ext W w') => h.cellk ac0
  have ac1 := b1 1 _ rfl
  have ak1 := fun (w' : World) (h : Ext W w') => h.cellk ac1
  have ac2 := b1 2 _ rfl
  have ak2 := fun (w' : World) (h : Ext W w') => h.cellk ac2
  have ac3 := b1 3 _ rfl
  have ak3 := fun (w' : World) (h : Ext W w') => h.cellk ac3
  have bc0 := b2 0 _ rfl
  have bk0 := fun (w' : World) (h : Ext W w') => h.cellk bc0
  have bc1 := b2 1 _ rfl
  have bk1 := fun (w' : World) (h : Ext W w') => h.cellk bc1
  have bc2 := b2 2 _ rfl
  have bk2 := fun (w' : World) (h : Ext W w') => h.cellk bc2
  have bc3 := b2 3 _ rfl
  have bk3 := fun (w' : World) (h : Ext W w') => h.cellk bc3
  have hX0 : Ext W W := Ext.refl W
  clear b1 b2
  go_enter Tryd.func6, Tryd.ntmps6
  go_upto_region 1 with fail
  rw [← hW]
  clear hW
  go_wp2_with (first | (go_at_call 12; (with_reducible refine (narrow_val ar ap ax au br bp bx bu true hn _).mono ?_); rintro e w' ⟨rfl, hb⟩; have hX : Ext W w' := (by (repeat (first | assumption | exact Ext.refl _ | refine Ext.drew ?_ | refine Ext.alloc ?_ _ | refine Ext.drewN ?_ _ | refine Ext.trans ?_ (by assumption))))) | (go_at_call 13; (with_reducible refine (covers_val br bp bx bu q s true hcb _).mono ?_); rintro e w' ⟨rfl, hb⟩; have hX : Ext W w' := (by (repeat (first | assumption | exact Ext.refl _ | refine Ext.drew ?_ | refine Ext.alloc ?_ _ | refine Ext.drewN ?_ _ | refine Ext.trans ?_ (by assumption))))) | (go_at_call 19; (with_reducible refine (whole_val br bp bx bu false hwb _).mono ?_); rintro e w' ⟨rfl, hb⟩; have hX : Ext W w' := (by (repeat (first | assumption | exact Ext.refl _ | refine Ext.drew ?_ | refine Ext.alloc ?_ _ | refine Ext.drewN ?_ _ | refine Ext.trans ?_ (by assumption))))) | (go_at_call 22; (with_reducible refine (lasts_val br bp bx bu c false hlb _).mono ?_); rintro e w' ⟨rfl, hb⟩; have hX : Ext W w' := (by (repeat (first | assumption | exact Ext.refl _ | refine Ext.drew ?_ | refine Ext.alloc ?_ _ | refine Ext.drewN ?_ _ | refine Ext.trans ?_ (by assumption))))) | (go_at_call 10; (with_reducible refine (works_any _).mono ?_); rintro e w' ⟨rfl, hb⟩; have hX : Ext W w' := (by (repeat (first | assumption | exact Ext.refl _ | refine Ext.drew ?_ | refine Ext.alloc ?_ _ | refine Ext.drewN ?_ _ | refine Ext.trans ?_ (by assumption))))) | (go_at_call 13; (with_reducible refine (covers_val ar ap ax au q s true hca _).mono ?_); rintro e w' ⟨rfl, hb⟩; have hX : Ext W w' := (by (repeat (first | assumption | exact Ext.refl _ | refine Ext.drew ?_ | refine Ext.alloc ?_ _ | refine Ext.drewN ?_ _ | refine Ext.trans ?_ (by assumption))))))
  all_goals go_ret
  all_goals exact ⟨rfl, by (repeat (first | assumption | exact Ext.refl _ | refine Ext.drew ?_ | refine Ext.alloc ?_ _ | refine Ext.drewN ?_ _ | refine Ext.trans ?_ (by assumption)))⟩
set_option maxHeartbeats 1000000 in
set_option maxRecDepth 100000 in
theorem less_101 (ar : Int) (ap : ByteArray) (ax : Bool) (au : Int) (br : Int) (bp : ByteArray) (bx : Bool) (bu : Int) (q : Int) (s : ByteArray) (c : Int) (w : World) (hm : ¬ 4096 < mx3 (ap.size : Int) (bp.size : Int) (s.size : Int)) (hn : narrowG ar ap ax au br bp bx bu = true) (hcb : coversG br bp bx q s = true) (hwb : wholeG bp bx = false) (hlb : lastsG bu c = true) (hca : coversG ar ap ax q s = true) (hla : lastsG au c = true) : Calls Tryd.prog 6 #[.agg #[.int .i64 ar, .string ap, .bool ax, .int .i64 au], .agg #[.int .i64 br, .string bp, .bool bx, .int .i64 bu], .int .i64 q, .string s, .int .i64 c] w fun e w' => e = .returned (.bool true) ∧ Ext w w' := by
  obtain ⟨W, hW, hE, b1, b2⟩ := box2 w #[.int .i64 ar, .string ap, .bool ax, .int .i64 au] #[.int .i64 br, .string bp, .bool bx, .int .i64 bu] 23 23
  have ac0 := b1 0 _ rfl
  have ak0 := fun (w' : World) (h : Ext W w') => h.cellk ac0
  have ac1 := b1 1 _ rfl
  have ak1 := fun (w' : World) (h : Ext W w') => h.cellk ac1
  have ac2 := b1 2 _ rfl
  have ak2 := fun (w' : World) (h : Ext W w') => h.cellk ac2
  have ac3 := b1 3 _ rfl
  have ak3 := fun (w' : World) (h : Ext W w') => h.cellk ac3
  have bc0 := b2 0 _ rfl
  have bk0 := fun (w' : World) (h : Ext W w') => h.cellk bc0
  have bc1 := b2 1 _ rfl
  have bk1 := fun (w' : World) (h : Ext W w') => h.cellk bc1
  have bc2 := b2 2 _ rfl
  have bk2 := fun (w' : World) (h : Ext W w') => h.cellk bc2
  have bc3 := b2 3 _ rfl
  have bk3 := fun (w' : World) (h : Ext W w') => h.cellk bc3
  have hX0 : Ext W W := Ext.refl W
  clear b1 b2
  go_enter Tryd.func6, Tryd.ntmps6
  go_upto_region 1 with fail
  rw [← hW]
  clear hW
  go_wp2_with (first | (go_at_call 12; (with_reducible refine (narrow_val ar ap ax au br bp bx bu true hn _).mono ?_); rintro e w' ⟨rfl, hb⟩; have hX : Ext W w' := (by (repeat (first | assumption | exact Ext.refl _ | refine Ext.drew ?_ | refine Ext.alloc ?_ _ | refine Ext.drewN ?_ _ | refine Ext.trans ?_ (by assumption))))) | (go_at_call 13; (with_reducible refine (covers_val br bp bx bu q s true hcb _).mono ?_); rintro e w' ⟨rfl, hb⟩; have hX : Ext W w' := (by (repeat (first | assumption | exact Ext.refl _ | refine Ext.drew ?_ | refine Ext.alloc ?_ _ | refine Ext.drewN ?_ _ | refine Ext.trans ?_ (by assumption))))) | (go_at_call 19; (with_reducible refine (whole_val br bp bx bu false hwb _).mono ?_); rintro e w' ⟨rfl, hb⟩; have hX : Ext W w' := (by (repeat (first | assumption | exact Ext.refl _ | refine Ext.drew ?_ | refine Ext.alloc ?_ _ | refine Ext.drewN ?_ _ | refine Ext.trans ?_ (by assumption))))) | (go_at_call 22; (with_reducible refine (lasts_val br bp bx bu c true hlb _).mono ?_); rintro e w' ⟨rfl, hb⟩; have hX : Ext W w' := (by (repeat (first | assumption | exact Ext.refl _ | refine Ext.drew ?_ | refine Ext.alloc ?_ _ | refine Ext.drewN ?_ _ | refine Ext.trans ?_ (by assumption))))) | (go_at_call 10; (with_reducible refine (works_any _).mono ?_); rintro e w' ⟨rfl, hb⟩; have hX : Ext W w' := (by (repeat (first | assumption | exact Ext.refl _ | refine Ext.drew ?_ | refine Ext.alloc ?_ _ | refine Ext.drewN ?_ _ | refine Ext.trans ?_ (by assumption))))) | (go_at_call 13; (with_reducible refine (covers_val ar ap ax au q s true hca _).mono ?_); rintro e w' ⟨rfl, hb⟩; have hX : Ext W w' := (by (repeat (first | assumption | exact Ext.refl _ | refine Ext.drew ?_ | refine Ext.alloc ?_ _ | refine Ext.drewN ?_ _ | refine Ext.trans ?_ (by assumption))))) | (go_at_call 22; (with_reducible refine (lasts_val ar ap ax au c true hla _).mono ?_); rintro e w' ⟨rfl, hb⟩; have hX : Ext W w' := (by (repeat (first | assumption | exact Ext.refl _ | refine Ext.drew ?_ | refine Ext.alloc ?_ _ | refine Ext.drewN ?_ _ | refine Ext.trans ?_ (by assumption))))))
  all_goals go_ret
  all_goals exact ⟨rfl, by (repeat (first | assumption | exact Ext.refl _ | refine Ext.drew ?_ | refine Ext.alloc ?_ _ | refine Ext.drewN ?_ _ | refine Ext.trans ?_ (by assumption)))⟩
set_option maxHeartbeats 1000000 in
set_option maxRecDepth 100000 in
theorem less_110 (ar : Int) (ap : ByteArray) (ax : Bool) (au : Int) (br : Int) (bp : ByteArray) (bx : Bool) (bu : Int) (q : Int) (s : ByteArray) (c : Int) (w : World) (hm : ¬ 4096 < mx3 (ap.size : Int) (bp.size : Int) (s.size : Int)) (hn : narrowG ar ap ax au br bp bx bu = true) (hcb : coversG br bp bx q s = true) (hwb : wholeG bp bx = true) (hlb : lastsG bu c = false) (hca : coversG ar ap ax q s = true) (hwa : wholeG ap ax = true) : Calls Tryd.prog 6 #[.agg #[.int .i64 ar, .string ap, .bool ax, .int .i64 au], .agg #[.int .i64 br, .string bp, .bool bx, .int .i64 bu], .int .i64 q, .string s, .int .i64 c] w fun e w' => e = .returned (.bool true) ∧ Ext w w' := by
  obtain ⟨W, hW, hE, b1, b2⟩ := box2 w #[.int .i64 ar, .string ap, .bool ax, .int .i64 au] #[.int .i64 br, .string bp, .bool bx, .int .i64 bu] 23 23
  have ac0 := b1 0 _ rfl
  have ak0 := fun (w' : World) (h : Ext W w') => h.cellk ac0
  have ac1 := b1 1 _ rfl
  have ak1 := fun (w' : World) (h : Ext W w') => h.cellk ac1
  have ac2 := b1 2 _ rfl
  have ak2 := fun (w' : World) (h : Ext W w') => h.cellk ac2
  have ac3 := b1 3 _ rfl
  have ak3 := fun (w' : World) (h : Ext W w') => h.cellk ac3
  have bc0 := b2 0 _ rfl
  have bk0 := fun (w' : World) (h : Ext W w') => h.cellk bc0
  have bc1 := b2 1 _ rfl
  have bk1 := fun (w' : World) (h : Ext W w') => h.cellk bc1
  have bc2 := b2 2 _ rfl
  have bk2 := fun (w' : World) (h : Ext W w') => h.cellk bc2
  have bc3 := b2 3 _ rfl
  have bk3 := fun (w' : World) (h : Ext W w') => h.cellk bc3
  have hX0 : Ext W W := Ext.refl W
  clear b1 b2
  go_enter Tryd.func6, Tryd.ntmps6
  go_upto_region 1 with fail
  rw [← hW]
  clear hW
  go_wp2_with (first | (go_at_call 12; (with_reducible refine (narrow_val ar ap ax au br bp bx bu true hn _).mono ?_); rintro e w' ⟨rfl, hb⟩; have hX : Ext W w' := (by (repeat (first | assumption | exact Ext.refl _ | refine Ext.drew ?_ | refine Ext.alloc ?_ _ | refine Ext.drewN ?_ _ | refine Ext.trans ?_ (by assumption))))) | (go_at_call 13; (with_reducible refine (covers_val br bp bx bu q s true hcb _).mono ?_); rintro e w' ⟨rfl, hb⟩; have hX : Ext W w' := (by (repeat (first | assumption | exact Ext.refl _ | refine Ext.drew ?_ | refine Ext.alloc ?_ _ | refine Ext.drewN ?_ _ | refine Ext.trans ?_ (by assumption))))) | (go_at_call 19; (with_reducible refine (whole_val br bp bx bu true hwb _).mono ?_); rintro e w' ⟨rfl, hb⟩; have hX : Ext W w' := (by (repeat (first | assumption | exact Ext.refl _ | refine Ext.drew ?_ | refine Ext.alloc ?_ _ | refine Ext.drewN ?_ _ | refine Ext.trans ?_ (by assumption))))) | (go_at_call 22; (with_reducible refine (lasts_val br bp bx bu c false hlb _).mono ?_); rintro e w' ⟨rfl, hb⟩; have hX : Ext W w' := (by (repeat (first | assumption | exact Ext.refl _ | refine Ext.drew ?_ | refine Ext.alloc ?_ _ | refine Ext.drewN ?_ _ | refine Ext.trans ?_ (by assumption))))) | (go_at_call 10; (with_reducible refine (works_any _).mono ?_); rintro e w' ⟨rfl, hb⟩; have hX : Ext W w' := (by (repeat (first | assumption | exact Ext.refl _ | refine Ext.drew ?_ | refine Ext.alloc ?_ _ | refine Ext.drewN ?_ _ | refine Ext.trans ?_ (by assumption))))) | (go_at_call 13; (with_reducible refine (covers_val ar ap ax au q s true hca _).mono ?_); rintro e w' ⟨rfl, hb⟩; have hX : Ext W w' := (by (repeat (first | assumption | exact Ext.refl _ | refine Ext.drew ?_ | refine Ext.alloc ?_ _ | refine Ext.drewN ?_ _ | refine Ext.trans ?_ (by assumption))))) | (go_at_call 19; (with_reducible refine (whole_val ar ap ax au true hwa _).mono ?_); rintro e w' ⟨rfl, hb⟩; have hX : Ext W w' := (by (repeat (first | assumption | exact Ext.refl _ | refine Ext.drew ?_ | refine Ext.alloc ?_ _ | refine Ext.drewN ?_ _ | refine Ext.trans ?_ (by assumption))))))
  all_goals go_ret
  all_goals exact ⟨rfl, by (repeat (first | assumption | exact Ext.refl _ | refine Ext.drew ?_ | refine Ext.alloc ?_ _ | refine Ext.drewN ?_ _ | refine Ext.trans ?_ (by assumption)))⟩
set_option maxHeartbeats 1000000 in
set_option maxRecDepth 100000 in
theorem less_111 (ar : Int) (ap : ByteArray) (ax : Bool) (au : Int) (br : Int) (bp : ByteArray) (bx : Bool) (bu : Int) (q : Int) (s : ByteArray) (c : Int) (w : World) (hm : ¬ 4096 < mx3 (ap.size : Int) (bp.size : Int) (s.size : Int)) (hn : narrowG ar ap ax au br bp bx bu = true) (hcb : coversG br bp bx q s = true) (hwb : wholeG bp bx = true) (hlb : lastsG bu c = true) (hca : coversG ar ap ax q s = true) (hwa : wholeG ap ax = true) (hla : lastsG au c = true) : Calls Tryd.prog 6 #[.agg #[.int .i64 ar, .string ap, .bool ax, .int .i64 au], .agg #[.int .i64 br, .string bp, .bool bx, .int .i64 bu], .int .i64 q, .string s, .int .i64 c] w fun e w' => e = .returned (.bool true) ∧ Ext w w' := by
  obtain ⟨W, hW, hE, b1, b2⟩ := box2 w #[.int .i64 ar, .string ap, .bool ax, .int .i64 au] #[.int .i64 br, .string bp, .bool bx, .int .i64 bu] 23 23
  have ac0 := b1 0 _ rfl
  have ak0 := fun (w' : World) (h : Ext W w') => h.cellk ac0
  have ac1 := b1 1 _ rfl
  have ak1 := fun (w' : World) (h : Ext W w') => h.cellk ac1
  have ac2 := b1 2 _ rfl
  have ak2 := fun (w' : World) (h : Ext W w') => h.cellk ac2
  have ac3 := b1 3 _ rfl
  have ak3 := fun (w' : World) (h : Ext W w') => h.cellk ac3
  have bc0 := b2 0 _ rfl
  have bk0 := fun (w' : World) (h : Ext W w') => h.cellk bc0
  have bc1 := b2 1 _ rfl
  have bk1 := fun (w' : World) (h : Ext W w') => h.cellk bc1
  have bc2 := b2 2 _ rfl
  have bk2 := fun (w' : World) (h : Ext W w') => h.cellk bc2
  have bc3 := b2 3 _ rfl
  have bk3 := fun (w' : World) (h : Ext W w') => h.cellk bc3
  have hX0 : Ext W W := Ext.refl W
  clear b1 b2
  go_enter Tryd.func6, Tryd.ntmps6
  go_upto_region 1 with fail
  rw [← hW]
  clear hW
  go_wp2_with (first | (go_at_call 12; (with_reducible refine (narrow_val ar ap ax au br bp bx bu true hn _).mono ?_); rintro e w' ⟨rfl, hb⟩; have hX : Ext W w' := (by (repeat (first | assumption | exact Ext.refl _ | refine Ext.drew ?_ | refine Ext.alloc ?_ _ | refine Ext.drewN ?_ _ | refine Ext.trans ?_ (by assumption))))) | (go_at_call 13; (with_reducible refine (covers_val br bp bx bu q s true hcb _).mono ?_); rintro e w' ⟨rfl, hb⟩; have hX : Ext W w' := (by (repeat (first | assumption | exact Ext.refl _ | refine Ext.drew ?_ | refine Ext.alloc ?_ _ | refine Ext.drewN ?_ _ | refine Ext.trans ?_ (by assumption))))) | (go_at_call 19; (with_reducible refine (whole_val br bp bx bu true hwb _).mono ?_); rintro e w' ⟨rfl, hb⟩; have hX : Ext W w' := (by (repeat (first | assumption | exact Ext.refl _ | refine Ext.drew ?_ | refine Ext.alloc ?_ _ | refine Ext.drewN ?_ _ | refine Ext.trans ?_ (by assumption))))) | (go_at_call 22; (with_reducible refine (lasts_val br bp bx bu c true hlb _).mono ?_); rintro e w' ⟨rfl, hb⟩; have hX : Ext W w' := (by (repeat (first | assumption | exact Ext.refl _ | refine Ext.drew ?_ | refine Ext.alloc ?_ _ | refine Ext.drewN ?_ _ | refine Ext.trans ?_ (by assumption))))) | (go_at_call 10; (with_reducible refine (works_any _).mono ?_); rintro e w' ⟨rfl, hb⟩; have hX : Ext W w' := (by (repeat (first | assumption | exact Ext.refl _ | refine Ext.drew ?_ | refine Ext.alloc ?_ _ | refine Ext.drewN ?_ _ | refine Ext.trans ?_ (by assumption))))) | (go_at_call 13; (with_reducible refine (covers_val ar ap ax au q s true hca _).mono ?_); rintro e w' ⟨rfl, hb⟩; have hX : Ext W w' := (by (repeat (first | assumption | exact Ext.refl _ | refine Ext.drew ?_ | refine Ext.alloc ?_ _ | refine Ext.drewN ?_ _ | refine Ext.trans ?_ (by assumption))))) | (go_at_call 19; (with_reducible refine (whole_val ar ap ax au true hwa _).mono ?_); rintro e w' ⟨rfl, hb⟩; have hX : Ext W w' := (by (repeat (first | assumption | exact Ext.refl _ | refine Ext.drew ?_ | refine Ext.alloc ?_ _ | refine Ext.drewN ?_ _ | refine Ext.trans ?_ (by assumption))))) | (go_at_call 22; (with_reducible refine (lasts_val ar ap ax au c true hla _).mono ?_); rintro e w' ⟨rfl, hb⟩; have hX : Ext W w' := (by (repeat (first | assumption | exact Ext.refl _ | refine Ext.drew ?_ | refine Ext.alloc ?_ _ | refine Ext.drewN ?_ _ | refine Ext.trans ?_ (by assumption))))))
  all_goals go_ret
  all_goals exact ⟨rfl, by (repeat (first | assumption | exact Ext.refl _ | refine Ext.drew ?_ | refine Ext.alloc ?_ _ | refine Ext.drewN ?_ _ | refine Ext.trans ?_ (by assumption)))⟩
theorem less_walk (ar : Int) (ap : ByteArray) (ax : Bool) (au : Int) (br : Int) (bp : ByteArray) (bx : Bool) (bu : Int) (q : Int) (s : ByteArray) (c : Int) (w : World) (wb : wfI br) (wq : wfI q) : Calls Tryd.prog 6 #[.agg #[.int .i64 ar, .string ap, .bool ax, .int .i64 au], .agg #[.int .i64 br, .string bp, .bool bx, .int .i64 bu], .int .i64 q, .string s, .int .i64 c] w fun e w' => e = .returned (.bool true) ∧ Ext w w' := by
  by_cases hm : 4096 < mx3 (ap.size : Int) (bp.size : Int) (s.size : Int)
  · exact less_long ar ap ax au br bp bx bu q s c w hm
  cases hn : narrowG ar ap ax au br bp bx bu
  · exact less_not ar ap ax au br bp bx bu q s c w hm hn
  cases hcb : coversG br bp bx q s <;> cases hwb : wholeG bp bx <;> cases hlb : lastsG bu c
  all_goals first
      | exact less_000 ar ap ax au br bp bx bu q s c w hm hn hcb hwb hlb
      | exact less_001 ar ap ax au br bp bx bu q s c w hm hn hcb hwb hlb (narrow_lasts _ _ _ _ _ _ _ _ c hn hlb)
      | exact less_010 ar ap ax au br bp bx bu q s c w hm hn hcb hwb hlb (narrow_whole _ _ _ _ _ _ _ _ hn hwb)
      | exact less_011 ar ap ax au br bp bx bu q s c w hm hn hcb hwb hlb (narrow_whole _ _ _ _ _ _ _ _ hn hwb) (narrow_lasts _ _ _ _ _ _ _ _ c hn hlb)
      | exact less_100 ar ap ax au br bp bx bu q s c w hm hn hcb hwb hlb (narrow_covers _ _ _ _ _ _ _ _ wb q wq s hn hcb)
      | exact less_101 ar ap ax au br bp bx bu q s c w hm hn hcb hwb hlb (narrow_covers _ _ _ _ _ _ _ _ wb q wq s hn hcb) (narrow_lasts _ _ _ _ _ _ _ _ c hn hlb)
      | exact less_110 ar ap ax au br bp bx bu q s c w hm hn hcb hwb hlb (narrow_covers _ _ _ _ _ _ _ _ wb q wq s hn hcb) (narrow_whole _ _ _ _ _ _ _ _ hn hwb)
      | exact less_111 ar ap ax au br bp bx bu q s c w hm hn hcb hwb hlb (narrow_covers _ _ _ _ _ _ _ _ wb q wq s hn hcb) (narrow_whole _ _ _ _ _ _ _ _ hn hwb) (narrow_lasts _ _ _ _ _ _ _ _ c hn hlb)
end Go.Proofs.YtmdjndhebgnjoaaDoor
