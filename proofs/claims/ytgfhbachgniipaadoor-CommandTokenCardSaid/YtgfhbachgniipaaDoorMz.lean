/- Short names of three rules of the list library (texts are long). -/
import Derived.WalkKit
namespace Go.Proofs.YtgfhbachgniipaaDoor
theorem zzA {α : Type _} (l : List α) (i : Nat) (a : α) : l.toArray.setIfInBounds i a = (l.set i a).toArray := List.setIfInBounds_toArray ..
theorem zz0 {α : Type _} (x : α) (l : List α) (a : α) : (x :: l).set 0 a = a :: l := rfl
theorem zzS {α : Type _} (x : α) (l : List α) (n : Nat) (a : α) : (x :: l).set (n + 1) a = x :: l.set n a := rfl
end Go.Proofs.YtgfhbachgniipaaDoor
