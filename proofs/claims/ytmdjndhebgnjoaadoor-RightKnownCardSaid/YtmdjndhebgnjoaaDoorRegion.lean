/- A region that draws its order, walked in one order that is given: operations that yield whatever the order are taken first, the others come one at a time. -/
import Derived.OrdersHeld
import Derived.Deep.RegionHeld3
namespace Go.Proofs.YtmdjndhebgnjoaaDoor
set_option linter.unusedVariables false
set_option linter.unusedSimpArgs false
section
variable {P : Program} {ops : Array Oper} {Q : Exit → Act → World → Prop} {S : World → Prop}
/-- The rest of the region in the order that is given: (true, i): number i yields in every world that meets S (or its guard is off); (false, i): it is carried out, S is shown behind it. -/
def wpOrd (P : Program) (ops : Array Oper) (Q : Exit → Act → World → Prop) (S : World → Prop) : List (Bool × Nat) → Act → World → Prop
  | [], a, w => Q .normal a w
  | (true, i) :: r, a, w => ∃ o v, ops[i]? = some o ∧ YieldsIf P ops S o v a ∧ wpOrd P ops Q S r (a.put o.dst v) w
  | (false, i) :: r, a, w => wpOp P ops Q i (fun a' w' => S w' ∧ wpOrd P ops Q S r a' w') a w
/-- The order may be taken: by the region's edges alone. -/
def ordB (md : Region.Mode) (ops : Array Oper) : Array Bool → List (Bool × Nat) → Bool
  | l, [] => Region.ready md ops l == []
  | l, (true, i) :: r => Region.free md ops l i && (Region.ready md ops l).contains i && ordB md ops (l.setIfInBounds i true) r
  | l, (false, i) :: r => (Region.ready md ops l == [i]) && ordB md ops (l.setIfInBounds i true) r
theorem wpAnyH_ord {md : Region.Mode} (hs : Region.noSelect ops = true) (hQ : ∀ c a d v w, Q (.panic c) (a.put d v) w → Q (.panic c) a w) :
    ∀ (ord : List (Bool × Nat)) (l : Array Bool) (a : Act) (w : World), ordB md ops l ord = true → S w → wpOrd P ops Q S ord a w → wpAnyH P md ops Q S ord.length l a w
  | [], l, a, w, hb, _, h => wpAnyH_done (by simpa [ordB] using hb) h 0
  | (true, i) :: r, l, a, w, hb, hS, h => by
    simp only [ordB, Bool.and_eq_true] at hb
    obtain ⟨o, v, hi, hy, hr⟩ := h
    exact wpAnyH_take hi hs hb.1.1 hb.1.2 (fun c a w => hQ c a o.dst v w) hy hS (wpAnyH_ord hs hQ r _ _ _ hb.2 hS hr)
  | (false, i) :: r, l, a, w, hb, hS, h => by
    simp only [ordB, Bool.and_eq_true, beq_iff_eq] at hb
    refine wpAnyH_all hb.1 (by simp) (fun j hj => ?_)
    obtain rfl : j = i := by simpa using hj
    exact wpOp_mono (fun a' w' hk => ⟨hk.1, wpAnyH_ord hs hQ r _ _ _ hb.2 hk.1 hk.2⟩) h
/-- The beginning. -/
theorem rg_start {id : Nat} {a : Act} {w : World} (ord : List (Bool × Nat)) (S : World → Prop) (hm : P.follows .mixedOrders = true)
    (hb : (Region.noSelect ops && (ord.length == ops.size) && ordB .any ops (Array.replicate ops.size false) ord) = true) (hQ : ∀ c a d v w, Q (.panic c) (a.put d v) w → Q (.panic c) a w)
    (hS : S w.drew) (h : wpOrd P ops Q S ord a w.drew) : (Code.region id ops true).wp P Q a w := by
  simp only [Bool.and_eq_true, beq_iff_eq] at hb
  refine wp_region_held (S := S) hm ?_
  rw [← hb.1.2]
  have := wpAnyH_ord hb.1.1 hQ ord (Array.replicate ops.size false) a w.drew hb.2 hS h
  rw [← hb.1.2] at this
  exact this
/-- One that yields. -/
theorem rg_y {i : Nat} {r : List (Bool × Nat)} {o : Oper} {n : Tmp} {v : Value} {a a' : Act} {w : World} (ho : ops[i]? = some o) (hN : o.dst = some n) (hw : Region.wanted o (yielded ops a.tmps) = true) (hr : ∀ w', S w' → (execOp a.eval o).run P w' = .ok (.value v) w') (ha : a.put (some n) v = a') (h : wpOrd P ops Q S r a' w) :
    wpOrd P ops Q S ((true, i) :: r) a w := ⟨o, v, ho, .inl ⟨hw, hr⟩, by rw [hN, ha]; exact h⟩
/-- One whose guard is off. -/
theorem rg_off {i : Nat} {r : List (Bool × Nat)} {o : Oper} {n : Tmp} {a a' : Act} {w : World} (ho : ops[i]? = some o) (hN : o.dst = some n) (hw : Region.wanted o (yielded ops a.tmps) = false) (ha : a.put (some n) undef = a') (h : wpOrd P ops Q S r a' w) :
    wpOrd P ops Q S ((true, i) :: r) a w := ⟨o, undef, ho, .inr ⟨hw, rfl⟩, by rw [hN, ha]; exact h⟩
theorem enters {f : FuncId} {fn : Func} (hf : P.funcs[f]? = some fn) (hname : (fn.name == "runtime.NumGoroutine") = false) (hb : fn.body.isSome = true) (args : Array Value) (w : World) : (callFunc f args).run P w = .ok (.enter f args) w := by
  have h1 : fn.name ≠ "runtime.NumGoroutine" := by simpa using hname
  obtain ⟨b, hb⟩ := Option.isSome_iff_exists.1 hb
  simp [callFunc, hf, h1, hb]
/-- A call of a Go function by its contract. -/
theorem rg_call {i : Nat} {r : List (Bool × Nat)} {oi : Oper} {n : Tmp} {a : Act} {w : World} {f : FuncId} {fn : Func} {as : Array Operand} {ts : Array TypeId} (hi : ops[i]? = some oi) (hf : P.funcs[f]? = some fn) (hname : (fn.name == "runtime.NumGoroutine") = false) (hb : fn.body.isSome = true) (args : Array Value)
    (hw : Region.wanted oi (yielded ops a.tmps) = true) (hN : oi.dst = some n) (hop : oi.op = .call { callee := .value (.func f), args := as, argTypes := ts }) (hargs : as.map a.eval = args)
    (h : Calls P f args w fun e w' => ∃ v a', e = .returned v ∧ S w' ∧ a.put (some n) v = a' ∧ wpOrd P ops Q S r a' w') : wpOrd P ops Q S ((false, i) :: r) a w := by
  have he := enters hf hname hb args w
  have hrun : (execOp a.eval oi).run P w = .ok (.enter f args) w := by
    unfold execOp
    simp [hop, resolve, Deferred.ofValue, invoke, Act.eval, hargs, he]
  show wpOp P ops Q i _ a w
  unfold Go.wpOp
  simp only [hi, hw, if_true]
  refine .inl ?_
  unfold Oper.wp
  rw [hrun, Oper.upon_enter]
  refine h.mono fun e w'' hh => ?_
  obtain ⟨v, a', rfl, hS, ha, hk⟩ := hh
  rw [hN]
  show S w'' ∧ wpOrd P ops Q S r (a.put (some n) v) w''
  rw [ha]
  exact ⟨hS, hk⟩
/-- An operation that leaves a value and another world (an alloc, a literal slice). -/
theorem rg_value {i : Nat} {r : List (Bool × Nat)} {oi : Oper} {n : Tmp} {a a' : Act} {w w1 : World} {v : Value} (hi : ops[i]? = some oi) (hN : oi.dst = some n) (hw : Region.wanted oi (yielded ops a.tmps) = true) (hrun : (execOp a.eval oi).run P w = .ok (.value v) w1) (hS : S w1) (ha : a.put (some n) v = a') (h : wpOrd P ops Q S r a' w1) :
    wpOrd P ops Q S ((false, i) :: r) a w := by
  show wpOp P ops Q i _ a w
  unfold Go.wpOp
  simp only [hi, hw, if_true]
  refine .inl ?_
  unfold Oper.wp
  rw [hrun]
  show S w1 ∧ wpOrd P ops Q S r (a.put oi.dst v) w1
  rw [hN, ha]
  exact ⟨hS, h⟩
/-- A store. -/
theorem rg_store {i : Nat} {r : List (Bool × Nat)} {oi : Oper} {a : Act} {w w1 : World} (hi : ops[i]? = some oi) (hw : Region.wanted oi (yielded ops a.tmps) = true) (hN : oi.dst = none) (hrun : (execOp a.eval oi).run P w = .ok .skip w1) (hS : S w1) (h : wpOrd P ops Q S r a w1) :
    wpOrd P ops Q S ((false, i) :: r) a w := by
  show wpOp P ops Q i _ a w
  unfold Go.wpOp
  simp only [hi, hw, if_true]
  refine .inl ?_
  unfold Oper.wp
  rw [hrun]
  show S w1 ∧ wpOrd P ops Q S r (a.put oi.dst undef) w1
  rw [hN]
  exact ⟨hS, h⟩
/-- One that would be carried out, its guard off. -/
theorem rg_eoff {i : Nat} {r : List (Bool × Nat)} {o : Oper} {a a' : Act} {w : World} (ho : ops[i]? = some o) (hw : Region.wanted o (yielded ops a.tmps) = false) (hS : S w) (ha : a.put o.dst undef = a') (h : wpOrd P ops Q S r a' w) :
    wpOrd P ops Q S ((false, i) :: r) a w := by
  show wpOp P ops Q i _ a w
  unfold Go.wpOp
  simp only [ho, hw]
  rw [ha]
  exact ⟨hS, h⟩
theorem rg_end {a : Act} {w : World} (h : Q .normal a w) : wpOrd P ops Q S [] a w := h
end
end Go.Proofs.YtmdjndhebgnjoaaDoor
