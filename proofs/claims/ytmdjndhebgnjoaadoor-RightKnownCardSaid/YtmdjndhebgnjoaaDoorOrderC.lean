/- RightOrder: for every input it answers true. -/
import Derived.Test.YtmdjndhebgnjoaaDoorOrder
import Derived.Test.YtmdjndhebgnjoaaDoorOrderB
namespace Go.Proofs.YtmdjndhebgnjoaaDoor
set_option linter.unusedVariables false
open Go.RowKit Go.Shelf
set_option maxHeartbeats 1000000
theorem order_walk (ar : Int) (ap : ByteArray) (ax : Bool) (au : Int) (br : Int) (bp : ByteArray) (bx : Bool) (bu : Int) (cr : Int) (cp : ByteArray) (cx : Bool) (cu : Int) (q : Int) (s : ByteArray) (w : World) (hsz : ap.size ≤ 9223372036854775807) (wa : wfI ar) (wb : wfI br) (wc : wfI cr) (wq : wfI q) :
    Calls Tryd.prog 3 #[.agg #[.int .i64 ar, .string ap, .bool ax, .int .i64 au], .agg #[.int .i64 br, .string bp, .bool bx, .int .i64 bu], .agg #[.int .i64 cr, .string cp, .bool cx, .int .i64 cu], .int .i64 q, .string s] w fun e w' => e = .returned (.bool true) ∧ Ext w w' := by
  by_cases hm : 4096 < mx4 (ap.size : Int) (bp.size : Int) (cp.size : Int) (s.size : Int)
  · exact order_long ar ap ax au br bp bx bu cr cp cx cu q s w hm
  by_cases hk : checkG ar ap ax au = 0
  all_goals
    cases hab : narrowG ar ap ax au br bp bx bu
    · first
        | exact order_f0 ar ap ax au br bp bx bu cr cp cx cu q s w hm hsz hk (narrow_refl _ _ _ _ hk) hab
        | exact order_f1 ar ap ax au br bp bx bu cr cp cx cu q s w hm hsz _ rfl (by simpa using hk) hab
    cases hbc : narrowG br bp bx bu cr cp cx cu
    all_goals cases hba : narrowG br bp bx bu ar ap ax au
    all_goals first
        | exact order_tff0 ar ap ax au br bp bx bu cr cp cx cu q s w hm hsz hk (narrow_refl _ _ _ _ hk) hab hbc hba
        | exact order_tff1 ar ap ax au br bp bx bu cr cp cx cu q s w hm hsz _ rfl (by simpa using hk) hab hbc hba
        | exact order_tft0 ar ap ax au br bp bx bu cr cp cx cu q s w hm hsz hk (narrow_refl _ _ _ _ hk) hab hbc hba _ (narrow_both _ _ _ _ _ _ _ _ wa wb q wq s hab hba) rfl
        | exact order_tft1 ar ap ax au br bp bx bu cr cp cx cu q s w hm hsz _ rfl (by simpa using hk) hab hbc hba _ (narrow_both _ _ _ _ _ _ _ _ wa wb q wq s hab hba) rfl
        | exact order_ttf0 ar ap ax au br bp bx bu cr cp cx cu q s w hm hsz hk (narrow_refl _ _ _ _ hk) hab hbc (narrow_trans _ _ _ _ _ _ _ _ _ _ _ _ wb wc hab hbc) hba
        | exact order_ttf1 ar ap ax au br bp bx bu cr cp cx cu q s w hm hsz _ rfl (by simpa using hk) hab hbc (narrow_trans _ _ _ _ _ _ _ _ _ _ _ _ wb wc hab hbc) hba
        | exact order_ttt0 ar ap ax au br bp bx bu cr cp cx cu q s w hm hsz hk (narrow_refl _ _ _ _ hk) hab hbc (narrow_trans _ _ _ _ _ _ _ _ _ _ _ _ wb wc hab hbc) hba _ (narrow_both _ _ _ _ _ _ _ _ wa wb q wq s hab hba) rfl
        | exact order_ttt1 ar ap ax au br bp bx bu cr cp cx cu q s w hm hsz _ rfl (by simpa using hk) hab hbc (narrow_trans _ _ _ _ _ _ _ _ _ _ _ _ wb wc hab hbc) hba _ (narrow_both _ _ _ _ _ _ _ _ wa wb q wq s hab hba) rfl
end Go.Proofs.YtmdjndhebgnjoaaDoor
