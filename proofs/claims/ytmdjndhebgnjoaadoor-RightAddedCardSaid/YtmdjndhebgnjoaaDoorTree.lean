/- A region that draws its order, walked along a tree of orders: operations that yield whatever the order are taken first, the others come one at a time, or two beside each other (both orders are walked). -/
import Derived.Test.YtmdjndhebgnjoaaDoorRegion
namespace Go.Proofs.YtmdjndhebgnjoaaDoor
set_option linter.unusedVariables false
set_option linter.unusedSimpArgs false
inductive Tr where
  | nil
  | y (i : Nat) (r : Tr)
  | e (i : Nat) (r : Tr)
  | two (i j : Nat) (r s : Tr)
def Tr.len : Tr → Nat
  | .nil => 0
  | .y _ r => r.len + 1
  | .e _ r => r.len + 1
  | .two _ _ r _ => r.len + 1
section
variable {P : Program} {ops : Array Oper} {Q : Exit → Act → World → Prop} {S : World → Prop}
def wpTr (P : Program) (ops : Array Oper) (Q : Exit → Act → World → Prop) (S : World → Prop) : Tr → Act → World → Prop
  | .nil, a, w => Q .normal a w
  | .y i r, a, w => ∃ o v, ops[i]? = some o ∧ YieldsIf P ops S o v a ∧ wpTr P ops Q S r (a.put o.dst v) w
  | .e i r, a, w => wpOp P ops Q i (fun a' w' => S w' ∧ wpTr P ops Q S r a' w') a w
  | .two i j r s, a, w => wpOp P ops Q i (fun a' w' => S w' ∧ wpTr P ops Q S r a' w') a w ∧ wpOp P ops Q j (fun a' w' => S w' ∧ wpTr P ops Q S s a' w') a w
def ordT (md : Region.Mode) (ops : Array Oper) : Array Bool → Tr → Bool
  | l, .nil => Region.ready md ops l == []
  | l, .y i r => Region.free md ops l i && (Region.ready md ops l).contains i && ordT md ops (l.setIfInBounds i true) r
  | l, .e i r => (Region.ready md ops l == [i]) && ordT md ops (l.setIfInBounds i true) r
  | l, .two i j r s => (Region.ready md ops l == [i, j]) && ordT md ops (l.setIfInBounds i true) r && ordT md ops (l.setIfInBounds j true) s && (r.len == s.len)
theorem wpAnyH_tr {md : Region.Mode} (hs : Region.noSelect ops = true) (hQ : ∀ c a d v w, Q (.panic c) (a.put d v) w → Q (.panic c) a w) :
    ∀ (t : Tr) (l : Array Bool) (a : Act) (w : World), ordT md ops l t = true → S w → wpTr P ops Q S t a w → wpAnyH P md ops Q S t.len l a w
  | .nil, l, a, w, hb, _, h => wpAnyH_done (by simpa [ordT] using hb) h 0
  | .y i r, l, a, w, hb, hS, h => by
    simp only [ordT, Bool.and_eq_true] at hb
    obtain ⟨o, v, hi, hy, hr⟩ := h
    exact wpAnyH_take hi hs hb.1.1 hb.1.2 (fun c a w => hQ c a o.dst v w) hy hS (wpAnyH_tr hs hQ r _ _ _ hb.2 hS hr)
  | .e i r, l, a, w, hb, hS, h => by
    simp only [ordT, Bool.and_eq_true, beq_iff_eq] at hb
    refine wpAnyH_all hb.1 (by simp) (fun j hj => ?_)
    obtain rfl : j = i := by simpa using hj
    exact wpOp_mono (fun a' w' hk => ⟨hk.1, wpAnyH_tr hs hQ r _ _ _ hb.2 hk.1 hk.2⟩) h
  | .two i j r s, l, a, w, hb, hS, h => by
    simp only [ordT, Bool.and_eq_true, beq_iff_eq] at hb
    obtain ⟨⟨⟨hb1, hb2⟩, hb3⟩, hb4⟩ := hb
    refine wpAnyH_all hb1 (by simp) (fun m hm => ?_)
    rcases (by simpa using hm : m = i ∨ m = j) with rfl | rfl
    · exact wpOp_mono (fun a' w' hk => ⟨hk.1, wpAnyH_tr hs hQ r _ _ _ hb2 hk.1 hk.2⟩) h.1
    · show wpOp P ops Q m (fun a' w' => S w' ∧ wpAnyH P md ops Q S r.len (l.setIfInBounds m true) a' w') a w
      rw [hb4]
      exact wpOp_mono (fun a' w' hk => ⟨hk.1, wpAnyH_tr hs hQ s _ _ _ hb3 hk.1 hk.2⟩) h.2
theorem tr_start {id : Nat} {a : Act} {w : World} (t : Tr) (S : World → Prop) (hm : P.follows .mixedOrders = true)
    (hb : (Region.noSelect ops && (t.len == ops.size) && ordT .any ops (Array.replicate ops.size false) t) = true) (hQ : ∀ c a d v w, Q (.panic c) (a.put d v) w → Q (.panic c) a w)
    (hS : S w.drew) (h : wpTr P ops Q S t a w.drew) : (Code.region id ops true).wp P Q a w := by
  simp only [Bool.and_eq_true, beq_iff_eq] at hb
  refine wp_region_held (S := S) hm ?_
  have := wpAnyH_tr hb.1.1 hQ t (Array.replicate ops.size false) a w.drew hb.2 hS h
  rw [hb.1.2] at this
  exact this
variable {i : Nat} {r : Tr} {o : Oper} {n : Tmp} {v : Value} {a a' : Act} {w w1 : World}
theorem tr_y (ho : ops[i]? = some o) (hN : o.dst = some n) (hw : Region.wanted o (yielded ops a.tmps) = true) (hr : ∀ w', S w' → (execOp a.eval o).run P w' = .ok (.value v) w') (ha : a.put (some n) v = a') (h : wpTr P ops Q S r a' w) :
    wpTr P ops Q S (.y i r) a w := ⟨o, v, ho, .inl ⟨hw, hr⟩, by rw [hN, ha]; exact h⟩
theorem tr_off (ho : ops[i]? = some o) (hN : o.dst = some n) (hw : Region.wanted o (yielded ops a.tmps) = false) (ha : a.put (some n) undef = a') (h : wpTr P ops Q S r a' w) :
    wpTr P ops Q S (.y i r) a w := ⟨o, undef, ho, .inr ⟨hw, rfl⟩, by rw [hN, ha]; exact h⟩
theorem tr_two {j : Nat} {s : Tr} (h : wpTr P ops Q S (.e i r) a w) (k : wpTr P ops Q S (.e j s) a w) : wpTr P ops Q S (.two i j r s) a w := ⟨h, k⟩
theorem tr_call {f : FuncId} {fn : Func} {as : Array Operand} {ts : Array TypeId} (hi : ops[i]? = some o) (hf : P.funcs[f]? = some fn) (hname : (fn.name == "runtime.NumGoroutine") = false) (hb : fn.body.isSome = true) (args : Array Value)
    (hw : Region.wanted o (yielded ops a.tmps) = true) (hN : o.dst = some n) (hop : o.op = .call { callee := .value (.func f), args := as, argTypes := ts }) (hargs : as.map a.eval = args)
    (h : Calls P f args w fun e w' => ∃ v a', e = .returned v ∧ S w' ∧ a.put (some n) v = a' ∧ wpTr P ops Q S r a' w') : wpTr P ops Q S (.e i r) a w := by
  have he := enters hf hname hb args w
  have hrun : (execOp a.eval o).run P w = .ok (.enter f args) w := by
    unfold execOp
    simp [hop, resolve, Deferred.ofValue, invoke, Act.eval, hargs, he]
  show wpOp P ops Q i _ a w
  unfold Go.wpOp
  simp only [hi, hw, if_true]
  refine .inl ?_
  unfold Oper.wp
  rw [hrun, Oper.upon_enter]
  refine h.mono fun e w'' hh => ?_
  obtain ⟨v, a', rfl, hS, ha, hk⟩ := hh
  rw [hN]
  show S w'' ∧ wpTr P ops Q S r (a.put (some n) v) w''
  rw [ha]
  exact ⟨hS, hk⟩
/-- An operation that leaves a value and another world (an alloc, a literal slice). -/
theorem tr_value (hi : ops[i]? = some o) (hN : o.dst = some n) (hw : Region.wanted o (yielded ops a.tmps) = true) (hrun : (execOp a.eval o).run P w = .ok (.value v) w1) (hS : S w1) (ha : a.put (some n) v = a') (h : wpTr P ops Q S r a' w1) :
    wpTr P ops Q S (.e i r) a w := by
  show wpOp P ops Q i _ a w
  unfold Go.wpOp
  simp only [hi, hw, if_true]
  refine .inl ?_
  unfold Oper.wp
  rw [hrun]
  show S w1 ∧ wpTr P ops Q S r (a.put o.dst v) w1
  rw [hN, ha]
  exact ⟨hS, h⟩
/-- A step at large: what the operation's run comes to. -/
theorem tr_step (hi : ops[i]? = some o) (hw : Region.wanted o (yielded ops a.tmps) = true) (h : Oper.wp P o a w (fun a' w' => S w' ∧ wpTr P ops Q S r a' w') Q) : wpTr P ops Q S (.e i r) a w := by
  show wpOp P ops Q i _ a w
  unfold Go.wpOp
  simp only [hi, hw, if_true]
  exact .inl h
theorem tr_store (hi : ops[i]? = some o) (hw : Region.wanted o (yielded ops a.tmps) = true) (hN : o.dst = none) (hrun : (execOp a.eval o).run P w = .ok .skip w1) (hS : S w1) (h : wpTr P ops Q S r a w1) :
    wpTr P ops Q S (.e i r) a w := by
  refine tr_step hi hw ?_
  unfold Oper.wp
  rw [hrun]
  show S w1 ∧ wpTr P ops Q S r (a.put o.dst undef) w1
  rw [hN]
  exact ⟨hS, h⟩
theorem tr_eoff (ho : ops[i]? = some o) (hw : Region.wanted o (yielded ops a.tmps) = false) (hS : S w) (ha : a.put o.dst undef = a') (h : wpTr P ops Q S r a' w) :
    wpTr P ops Q S (.e i r) a w := by
  show wpOp P ops Q i _ a w
  unfold Go.wpOp
  simp only [ho, hw]
  rw [ha]
  exact ⟨hS, h⟩
theorem tr_end (h : Q .normal a w) : wpTr P ops Q S .nil a w := h
end
end Go.Proofs.YtmdjndhebgnjoaaDoor
