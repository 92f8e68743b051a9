/- A plain region, walked step by step. -/
import Derived.Test.YtkmjnbfhfjafpaaDoorStable
namespace Go.Proofs.YtkmjnbfhfjafpaaDoor
set_option linter.unusedVariables false
set_option linter.unusedSimpArgs false
section
variable {P : Program} {ops : Array Oper} {Q : Exit → Act → World → Prop} {o : Oper} {r : List Oper} {a a' : Act} {n : Tmp} {v : Value} {w w1 : World}
/-- A step at large. -/
theorem pl_step (hw : Region.wanted o (yielded ops a.tmps) = true) (h : Oper.wp P o a w (wpList P ops Q r) Q) : wpList P ops Q (o :: r) a w := by
  unfold wpList
  rw [if_pos hw]
  exact .inl h
/-- The guard is off. -/
theorem pl_off (hN : o.dst = some n) (hw : Region.wanted o (yielded ops a.tmps) = false) (ha : a.put (some n) undef = a') (h : wpList P ops Q r a' w) : wpList P ops Q (o :: r) a w := by
  unfold wpList
  rw [hw, hN, ha]
  exact h
/-- It yields, and leaves the world, or another one. -/
theorem pl_y (hN : o.dst = some n) (hw : Region.wanted o (yielded ops a.tmps) = true) (hr : (execOp a.eval o).run P w = .ok (.value v) w) (ha : a.put (some n) v = a') (h : wpList P ops Q r a' w) : wpList P ops Q (o :: r) a w := by
  refine pl_step hw ?_
  unfold Oper.wp
  rw [hr, Oper.upon_value, hN, ha]
  exact h
theorem pl_v (hN : o.dst = some n) (hw : Region.wanted o (yielded ops a.tmps) = true) (hr : (execOp a.eval o).run P w = .ok (.value v) w1) (ha : a.put (some n) v = a') (h : wpList P ops Q r a' w1) : wpList P ops Q (o :: r) a w := by
  refine pl_step hw ?_
  unfold Oper.wp
  rw [hr, Oper.upon_value, hN, ha]
  exact h
theorem pl_store (hw : Region.wanted o (yielded ops a.tmps) = true) (hN : o.dst = none) (hr : (execOp a.eval o).run P w = .ok .skip w1) (h : wpList P ops Q r a w1) : wpList P ops Q (o :: r) a w := by
  refine pl_step hw ?_
  unfold Oper.wp
  rw [hr, Oper.upon_skip, hN]
  exact h
theorem pl_call {f : FuncId} {fn : Func} {as : Array Operand} {ts : Array TypeId} (hf : P.funcs[f]? = some fn) (hname : (fn.name == "runtime.NumGoroutine") = false) (hb : fn.body.isSome = true) (args : Array Value)
    (hw : Region.wanted o (yielded ops a.tmps) = true) (hN : o.dst = some n) (hop : o.op = .call { callee := .value (.func f), args := as, argTypes := ts }) (hargs : as.map a.eval = args)
    (h : Calls P f args w fun e w' => ∃ v a', e = .returned v ∧ a.put (some n) v = a' ∧ wpList P ops Q r a' w') : wpList P ops Q (o :: r) a w := by
  refine pl_step hw ?_
  unfold Oper.wp
  rw [exec_call hf hname hb args hop hargs w, Oper.upon_enter]
  refine h.mono fun e w'' hh => ?_
  obtain ⟨v, a', rfl, ha, hk⟩ := hh
  rw [hN]
  show wpList P ops Q r (a.put (some n) v) w''
  rw [ha]
  exact hk
/-- Operations that only hand values on, or whose guards are off. -/
def deadStep (ops : Array Oper) (o : Oper) (a : Act) : Option Act :=
  match Region.wanted o (yielded ops a.tmps) with
  | false => some (a.put o.dst undef)
  | true => match o.op with
    | .move x => some (a.put o.dst (a.eval x))
    | .assign x => some (a.put o.dst (a.eval x))
    | .pick c x y => match a.eval c with
      | .bool true => some (a.put o.dst (a.eval x))
      | .bool false => some (a.put o.dst (a.eval y))
      | _ => none
    | _ => none
def deadRun (ops : Array Oper) : List Oper → Act → Option Act
  | [], a => some a
  | o :: r, a => match deadStep ops o a with
    | some a' => deadRun ops r a'
    | none => none
theorem deadStep_spec (h : deadStep ops o a = some a') : (Region.wanted o (yielded ops a.tmps) = false ∧ a' = a.put o.dst undef) ∨ (Region.wanted o (yielded ops a.tmps) = true ∧ ∃ v, a' = a.put o.dst v ∧ ∀ w, (execOp a.eval o).run P w = .ok (.value v) w) := by
  unfold deadStep at h
  cases hw : Region.wanted o (yielded ops a.tmps)
  · rw [hw] at h
    exact .inl ⟨rfl, (Option.some.inj h).symm⟩
  · rw [hw] at h
    refine .inr ⟨rfl, ?_⟩
    simp only at h
    split at h
    · rename_i x hx
      exact ⟨_, (Option.some.inj h).symm, fun w => by simp [execOp, hx]⟩
    · rename_i x hx
      exact ⟨_, (Option.some.inj h).symm, fun w => by simp [execOp, hx]⟩
    · rename_i c x y hx
      split at h
      · rename_i hc
        exact ⟨_, (Option.some.inj h).symm, fun w => by simp [execOp, hx, hc, asBool, Result.andThen]⟩
      · rename_i hc
        exact ⟨_, (Option.some.inj h).symm, fun w => by simp [execOp, hx, hc, asBool, Result.andThen]⟩
      · cases h
    · cases h
theorem pl_dead : ∀ (r : List Oper) (a : Act), deadRun ops r a = some a' → Q .normal a' w → wpList P ops Q r a w
  | [], a, h, k => by
    obtain rfl := Option.some.inj h
    exact k
  | o :: r, a, h, k => by
    unfold deadRun at h
    cases hs : deadStep ops o a with
    | none => rw [hs] at h; cases h
    | some a1 =>
      rw [hs] at h
      unfold wpList
      rcases deadStep_spec (P := P) hs with ⟨hw, rfl⟩ | ⟨hw, v, rfl, hr⟩
      · rw [hw]; exact pl_dead r _ h k
      · rw [if_pos hw]
        refine .inl ?_
        unfold Oper.wp
        rw [hr]
        exact pl_dead r _ h k
/-- The rest hands on; what it leaves in one slot. -/
theorem pl_deadQ (s : Tmp) (x : Value) (h : ((deadRun ops r a).bind fun a' => some (a'.tmps[s]?, a'.defers.isEmpty)) = some (some x, true)) (k : ∀ a' : Act, a'.tmps[s]? = some x → a'.tmps.getD s undef = x → a'.defers = [] → Q .normal a' w) : wpList P ops Q r a w := by
  cases hd : deadRun ops r a with
  | none => rw [hd] at h; cases h
  | some a' =>
    rw [hd] at h
    simp only [Option.bind_some, Option.some.injEq, Prod.mk.injEq, List.isEmpty_iff] at h
    exact pl_dead r a hd (k a' h.1 (by rw [Array.getD_eq_getD_getElem?, h.1]; rfl) h.2)
end
end Go.Proofs.YtkmjnbfhfjafpaaDoor
