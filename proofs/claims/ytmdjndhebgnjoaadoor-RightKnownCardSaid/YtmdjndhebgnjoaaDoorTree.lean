/- A region that draws its order, walked along a tree of orders: operations that yield whatever the order are taken first, the others come one at a time, or two beside each other (both orders are walked). -/
import Derived.Test.YtmdjndhebgnjoaaDoorRegion
namespace Go.Proofs.YtmdjndhebgnjoaaDoor
set_option linter.unusedVariables false
set_option linter.unusedSimpArgs false
inductive Tr where
  | nil
  | y (i : Nat) (r : Tr)
  | e (i : Nat) (r : Tr)
  | two (i j : Nat) (r s : Tr)
def Tr.len : Tr → Nat
  | .nil => 0
  | .y _ r => r.len + 1
  | .e _ r => r.len + 1
  | .two _ _ r _ => r.len + 1
section
variable {P : Program} {ops : Array Oper} {Q : Exit → Act → World → Prop} {S : World → Prop} {md : Region.Mode}
/-- z waits for j, by the region's edges. -/
def waitsFor (md : Region.Mode) (ops : Array Oper) : Nat → Nat → Nat → Bool
  | 0, _, _ => false
  | n + 1, z, j => match ops[z]? with
    | some o => o.after.any fun e => Region.binds md e && (e.on == j || waitsFor md ops n e.on j)
    | none => false
/-- z waits for all others. -/
def lastOp (md : Region.Mode) (ops : Array Oper) (z : Nat) : Bool := (List.range ops.size).all fun j => j == z || waitsFor md ops ops.size z j
/-- Whatever was done waited for what it had to. -/
def ShutL (md : Region.Mode) (ops : Array Oper) (l : Array Bool) : Prop := ∀ k o, l.getD k false = true → ops[k]? = some o → ∀ e ∈ o.after, Region.binds md e = true → l.getD e.on false = true
theorem waits_done {l : Array Bool} (hl : ShutL md ops l) : ∀ (n z j : Nat) (o : Oper), ops[z]? = some o → (∀ e ∈ o.after, Region.binds md e = true → l.getD e.on false = true) → waitsFor md ops n z j = true → l.getD j false = true
  | 0, _, _, _, _, _, h => by simp [waitsFor] at h
  | n + 1, z, j, o, ho, hz, h => by
    unfold waitsFor at h
    rw [ho] at h
    obtain ⟨e, he, hb⟩ := Array.any_eq_true'.1 h
    simp only [Bool.and_eq_true, Bool.or_eq_true, beq_iff_eq] at hb
    have h1 := hz e he hb.1
    rcases hb.2 with rfl | h2
    · exact h1
    · cases hk : ops[e.on]? with
      | none =>
        exfalso
        cases n with
        | zero => simp [waitsFor] at h2
        | succ n => unfold waitsFor at h2; rw [hk] at h2; cases h2
      | some o' => exact waits_done hl n e.on j o' hk (hl e.on o' h1 hk) h2
theorem getD_set_false {l : Array Bool} {i k : Nat} (h : (l.setIfInBounds i true).getD k false = true) : l.getD k false = true ∨ k = i := by
  by_cases e : i = k
  · exact .inr e.symm
  · left
    rcases Nat.lt_or_ge k l.size with h' | h'
    · simp [Array.getElem?_setIfInBounds, e, h'] at h ⊢; exact h
    · simp [h'] at h
theorem ShutL.step {l : Array Bool} (hl : ShutL md ops l) {i : Nat} (hi : i ∈ Region.ready md ops l) : ShutL md ops (l.setIfInBounds i true) := by
  intro k o hk ho e he hb
  obtain ⟨_, oi, hoi, hall⟩ := mem_ready.1 hi
  rcases getD_set_false hk with h | rfl
  · exact getD_set_true (hl k o h ho e he hb)
  · rw [hoi] at ho
    obtain rfl := Option.some.inj ho
    exact getD_set_true (hall e he hb)
theorem ShutL.start (n : Nat) : ShutL md ops (Array.replicate n false) := by
  intro k o hk
  rcases Nat.lt_or_ge k n with h | h <;> simp [h] at hk
/-- If z may come up, all others have. -/
theorem last_done {l : Array Bool} (hl : ShutL md ops l) {z j : Nat} (hz : z ∈ Region.ready md ops l) (h : lastOp md ops z = true) (hj : j < ops.size) (hne : j ≠ z) : l.getD j false = true := by
  obtain ⟨_, o, ho, hall⟩ := mem_ready.1 hz
  unfold lastOp at h
  have := List.all_eq_true.1 h j (List.mem_range.2 hj)
  simp only [Bool.or_eq_true, beq_iff_eq] at this
  exact waits_done hl _ z j o ho hall (this.resolve_left hne)
/-- wpAnyH, where the last of all need not keep S. -/
def wpAnyZ (P : Program) (md : Region.Mode) (ops : Array Oper) (Q : Exit → Act → World → Prop) (S : World → Prop) : Nat → Array Bool → Act → World → Prop
  | 0, listed, a, w => Region.ready md ops listed = [] ∧ Q .normal a w
  | fuel + 1, listed, a, w =>
    (Region.ready md ops listed = [] → Q .normal a w) ∧
    ∀ i ∈ Region.ready md ops listed, wpOp P ops Q i (fun a' w' => (S w' ∨ lastOp md ops i = true) ∧ wpAnyZ P md ops Q S fuel (listed.setIfInBounds i true) a' w') a w
theorem wpAny_of_Z : ∀ (fuel : Nat) (listed : Array Bool) (a : Act) (w : World), wpAnyZ P md ops Q S fuel listed a w → wpAny P md ops Q fuel listed a w
  | 0, _, _, _, h => h
  | fuel + 1, _, _, _, h => ⟨h.1, fun i hi => wpOp_mono (fun a' w' h' => wpAny_of_Z fuel _ a' w' h'.2) (h.2 i hi)⟩
theorem wpAnyZ_first {i : Nat} {oi : Oper} {v : Value} (hi : ops[i]? = some oi) (hsel : ∀ (j : Nat) (o : Oper) cs b, ops[j]? = some o → o.op ≠ .select cs b)
    (hQ : ∀ c a w, Q (.panic c) (a.put oi.dst v) w → Q (.panic c) a w) :
    ∀ (fuel : Nat) (listed : Array Bool) (a : Act) (w : World), ShutL md ops listed →
      (∀ j oj, ops[j]? = some oj → j ≠ i → listed.getD j true = false → (∀ e ∈ oj.after, Region.binds md e = true → e.on ≠ i) → oi.apart ops oj = true) →
      i ∈ Region.ready md ops listed → YieldsIf P ops S oi v a → S w →
      wpAnyZ P md ops Q S fuel (listed.setIfInBounds i true) (a.put oi.dst v) w → wpAnyZ P md ops Q S (fuel + 1) listed a w := by
  intro fuel
  induction fuel with
  | zero =>
    intro listed a w hsh hfree hr hy hS H
    refine ⟨fun h => (by rw [h] at hr; cases hr), fun j hj => ?_⟩
    by_cases hji : j = i
    · subst hji; exact hy.wpOp hi hS ⟨.inl hS, H⟩
    · have := ready_mono hj hji
      rw [H.1] at this
      cases this
  | succ fuel ih =>
    intro listed a w hsh hfree hr hy hS H
    refine ⟨fun h => (by rw [h] at hr; cases hr), fun j hj => ?_⟩
    by_cases hji : j = i
    · subst hji; exact hy.wpOp hi hS ⟨.inl hS, H⟩
    · have h1 := H.2 j (ready_mono hj hji)
      obtain ⟨hjun, oj, hoj, hall⟩ := mem_ready.1 hj
      have hiun := (mem_ready.1 hr).1
      have hnot : ∀ e ∈ oj.after, Region.binds md e = true → e.on ≠ i := fun e he hb heq => by
        have h1 := hall e he hb
        have h0 := (mem_ready.1 hr).1
        rw [heq] at h1
        rcases Nat.lt_or_ge i listed.size with h' | h'
        · simp [h'] at h0 h1; rw [h0] at h1; cases h1
        · simp [Array.getElem?_eq_none h'] at h1
      have hnl : ¬ lastOp md ops j = true := fun hl => by
        have h2 := last_done hsh hj hl (Array.getElem?_eq_some_iff.1 hi).1 (Ne.symm hji)
        rcases Nat.lt_or_ge i listed.size with h' | h'
        · simp [h'] at hiun h2; rw [hiun] at h2; cases h2
        · simp [h'] at h2
      have h2 := wpOp_putIf hoj (hfree j oj hoj hji hjun hnot) (fun cs b => hsel i oi cs b hi) (fun cs b => hsel j oj cs b hoj) hQ hy h1
      have hfree' : ∀ k ok, ops[k]? = some ok → k ≠ i → (listed.setIfInBounds j true).getD k true = false →
          (∀ e ∈ ok.after, Region.binds md e = true → e.on ≠ i) → oi.apart ops ok = true := fun k ok hk hki hun hno => by
        refine hfree k ok hk hki ?_ hno
        by_cases hjk : j = k
        · subst hjk; exact hjun
        · rw [getD_set_ne true hjk] at hun; exact hun
      refine wpOp_mono (fun a' w' h3 => ⟨.inl (h3.2.1.resolve_right hnl), ih (listed.setIfInBounds j true) a' w' (hsh.step hj) hfree' (ready_mono hr (Ne.symm hji)) h3.1 (h3.2.1.resolve_right hnl) ?_⟩) h2
      rw [Array.setIfInBounds_comm _ _ hji]
      exact h3.2.2
def wpTr (P : Program) (ops : Array Oper) (Q : Exit → Act → World → Prop) (S : World → Prop) : Tr → Act → World → Prop
  | .nil, a, w => Q .normal a w
  | .y i r, a, w => ∃ o v, ops[i]? = some o ∧ YieldsIf P ops S o v a ∧ wpTr P ops Q S r (a.put o.dst v) w
  | .e i r, a, w => wpOp P ops Q i (fun a' w' => (S w' ∨ (r = .nil ∧ lastOp .any ops i = true)) ∧ wpTr P ops Q S r a' w') a w
  | .two i j r s, a, w => wpOp P ops Q i (fun a' w' => (S w' ∨ (r = .nil ∧ lastOp .any ops i = true)) ∧ wpTr P ops Q S r a' w') a w ∧ wpOp P ops Q j (fun a' w' => (S w' ∨ (s = .nil ∧ lastOp .any ops j = true)) ∧ wpTr P ops Q S s a' w') a w
def ordT (md : Region.Mode) (ops : Array Oper) : Array Bool → Tr → Bool
  | l, .nil => Region.ready md ops l == []
  | l, .y i r => Region.free md ops l i && (Region.ready md ops l).contains i && ordT md ops (l.setIfInBounds i true) r
  | l, .e i r => (Region.ready md ops l == [i]) && ordT md ops (l.setIfInBounds i true) r
  | l, .two i j r s => (Region.ready md ops l == [i, j]) && ordT md ops (l.setIfInBounds i true) r && ordT md ops (l.setIfInBounds j true) s && (r.len == s.len)
theorem wpAnyZ_all {rs : List Nat} {fuel : Nat} {listed : Array Bool} {a : Act} {w : World} (hr : Region.ready md ops listed = rs) (hne : rs ≠ [])
    (h : ∀ i ∈ rs, wpOp P ops Q i (fun a' w' => (S w' ∨ lastOp md ops i = true) ∧ wpAnyZ P md ops Q S fuel (listed.setIfInBounds i true) a' w') a w) : wpAnyZ P md ops Q S (fuel + 1) listed a w :=
  ⟨fun h0 => absurd (hr ▸ h0) hne, hr ▸ h⟩
theorem wpAnyZ_done : ∀ {listed : Array Bool} {a : Act} {w : World}, Region.ready md ops listed = [] → Q .normal a w → ∀ n, wpAnyZ P md ops Q S n listed a w
  | _, _, _, hr, h, 0 => ⟨hr, h⟩
  | _, _, _, hr, h, n + 1 => ⟨fun _ => h, fun i hi => (by rw [hr] at hi; cases hi)⟩
theorem wpAnyZ_tr (hs : Region.noSelect ops = true) (hQ : ∀ c a d v w, Q (.panic c) (a.put d v) w → Q (.panic c) a w) :
    ∀ (t : Tr) (l : Array Bool) (a : Act) (w : World), ShutL .any ops l → ordT .any ops l t = true → (S w ∨ t = .nil) → wpTr P ops Q S t a w → wpAnyZ P .any ops Q S t.len l a w
  | .nil, l, a, w, _, hb, _, h => wpAnyZ_done (by simpa [ordT] using hb) h 0
  | .y i r, l, a, w, hl, hb, hS, h => by
    simp only [ordT, Bool.and_eq_true] at hb
    obtain ⟨o, v, hi, hy, hr⟩ := h
    have hS := hS.resolve_right (by simp)
    have hm : i ∈ Region.ready .any ops l := by simpa using hb.1.2
    exact wpAnyZ_first hi (Region.noSelect_spec hs) (fun c a w => hQ c a o.dst v w) _ l a w hl (Region.free_spec hi hb.1.1) hm hy hS (wpAnyZ_tr hs hQ r _ _ _ (hl.step hm) hb.2 (.inl hS) hr)
  | .e i r, l, a, w, hl, hb, hS, h => by
    simp only [ordT, Bool.and_eq_true, beq_iff_eq] at hb
    have hm : i ∈ Region.ready .any ops l := by rw [hb.1]; simp
    refine wpAnyZ_all hb.1 (by simp) (fun j hj => ?_)
    obtain rfl : j = i := by simpa using hj
    exact wpOp_mono (fun a' w' hk => ⟨hk.1.imp id And.right, wpAnyZ_tr hs hQ r _ _ _ (hl.step hm) hb.2 (hk.1.imp id And.left) hk.2⟩) h
  | .two i j r s, l, a, w, hl, hb, hS, h => by
    simp only [ordT, Bool.and_eq_true, beq_iff_eq] at hb
    obtain ⟨⟨⟨hb1, hb2⟩, hb3⟩, hb4⟩ := hb
    have hm1 : i ∈ Region.ready .any ops l := by rw [hb1]; simp
    have hm2 : j ∈ Region.ready .any ops l := by rw [hb1]; simp
    refine wpAnyZ_all hb1 (by simp) (fun m hm => ?_)
    rcases (by simpa using hm : m = i ∨ m = j) with rfl | rfl
    · exact wpOp_mono (fun a' w' hk => ⟨hk.1.imp id And.right, wpAnyZ_tr hs hQ r _ _ _ (hl.step hm1) hb2 (hk.1.imp id And.left) hk.2⟩) h.1
    · show wpOp P ops Q m (fun a' w' => (S w' ∨ lastOp .any ops m = true) ∧ wpAnyZ P .any ops Q S r.len (l.setIfInBounds m true) a' w') a w
      rw [hb4]
      exact wpOp_mono (fun a' w' hk => ⟨hk.1.imp id And.right, wpAnyZ_tr hs hQ s _ _ _ (hl.step hm2) hb3 (hk.1.imp id And.left) hk.2⟩) h.2
theorem tr_start {id : Nat} {a : Act} {w : World} (t : Tr) (S : World → Prop) (hm : P.follows .mixedOrders = true)
    (hb : (Region.noSelect ops && (t.len == ops.size) && ordT .any ops (Array.replicate ops.size false) t) = true) (hQ : ∀ c a d v w, Q (.panic c) (a.put d v) w → Q (.panic c) a w)
    (hS : S w.drew) (h : wpTr P ops Q S t a w.drew) : (Code.region id ops true).wp P Q a w := by
  simp only [Bool.and_eq_true, beq_iff_eq] at hb
  refine wp_region_any hm ?_
  have := wpAny_of_Z _ _ _ _ (wpAnyZ_tr hb.1.1 hQ t (Array.replicate ops.size false) a w.drew (ShutL.start _) hb.2 (.inl hS) h)
  rw [hb.1.2] at this
  exact this
variable {i : Nat} {r : Tr} {o : Oper} {n : Tmp} {v : Value} {a a' : Act} {w w1 : World}
theorem tr_y (ho : ops[i]? = some o) (hN : o.dst = some n) (hw : Region.wanted o (yielded ops a.tmps) = true) (hr : ∀ w', S w' → (execOp a.eval o).run P w' = .ok (.value v) w') (ha : a.put (some n) v = a') (h : wpTr P ops Q S r a' w) :
    wpTr P ops Q S (.y i r) a w := ⟨o, v, ho, .inl ⟨hw, hr⟩, by rw [hN, ha]; exact h⟩
theorem tr_off (ho : ops[i]? = some o) (hN : o.dst = some n) (hw : Region.wanted o (yielded ops a.tmps) = false) (ha : a.put (some n) undef = a') (h : wpTr P ops Q S r a' w) :
    wpTr P ops Q S (.y i r) a w := ⟨o, undef, ho, .inr ⟨hw, rfl⟩, by rw [hN, ha]; exact h⟩
theorem tr_two {j : Nat} {s : Tr} (h : wpTr P ops Q S (.e i r) a w) (k : wpTr P ops Q S (.e j s) a w) : wpTr P ops Q S (.two i j r s) a w := ⟨h, k⟩
theorem tr_call {f : FuncId} {fn : Func} {as : Array Operand} {ts : Array TypeId} (hi : ops[i]? = some o) (hf : P.funcs[f]? = some fn) (hname : (fn.name == "runtime.NumGoroutine") = false) (hb : fn.body.isSome = true) (args : Array Value)
    (hw : Region.wanted o (yielded ops a.tmps) = true) (hN : o.dst = some n) (hop : o.op = .call { callee := .value (.func f), args := as, argTypes := ts }) (hargs : as.map a.eval = args)
    (h : Calls P f args w fun e w' => ∃ v a', e = .returned v ∧ S w' ∧ a.put (some n) v = a' ∧ wpTr P ops Q S r a' w') : wpTr P ops Q S (.e i r) a w := by
  have he := enters hf hname hb args w
  have hrun : (execOp a.eval o).run P w = .ok (.enter f args) w := by
    unfold execOp
    simp [hop, resolve, Deferred.ofValue, invoke, Act.eval, hargs, he]
  show wpOp P ops Q i _ a w
  unfold Go.wpOp
  simp only [hi, hw, if_true]
  refine .inl ?_
  unfold Oper.wp
  rw [hrun, Oper.upon_enter]
  refine h.mono fun e w'' hh => ?_
  obtain ⟨v, a', rfl, hS, ha, hk⟩ := hh
  rw [hN]
  show (S w'' ∨ _) ∧ wpTr P ops Q S r (a.put (some n) v) w''
  rw [ha]
  exact ⟨.inl hS, hk⟩
/-- An operation that leaves a value and another world (an alloc, a literal slice). -/
theorem tr_value (hi : ops[i]? = some o) (hN : o.dst = some n) (hw : Region.wanted o (yielded ops a.tmps) = true) (hrun : (execOp a.eval o).run P w = .ok (.value v) w1) (hS : S w1) (ha : a.put (some n) v = a') (h : wpTr P ops Q S r a' w1) :
    wpTr P ops Q S (.e i r) a w := by
  show wpOp P ops Q i _ a w
  unfold Go.wpOp
  simp only [hi, hw, if_true]
  refine .inl ?_
  unfold Oper.wp
  rw [hrun]
  show (S w1 ∨ _) ∧ wpTr P ops Q S r (a.put o.dst v) w1
  rw [hN, ha]
  exact ⟨.inl hS, h⟩
/-- A step at large: what the operation's run comes to. -/
theorem tr_stepL (hi : ops[i]? = some o) (hw : Region.wanted o (yielded ops a.tmps) = true) (h : Oper.wp P o a w (fun a' w' => (S w' ∨ (r = .nil ∧ lastOp .any ops i = true)) ∧ wpTr P ops Q S r a' w') Q) : wpTr P ops Q S (.e i r) a w := by
  show wpOp P ops Q i _ a w
  unfold Go.wpOp
  simp only [hi, hw, if_true]
  exact .inl h
theorem tr_step (hi : ops[i]? = some o) (hw : Region.wanted o (yielded ops a.tmps) = true) (h : Oper.wp P o a w (fun a' w' => S w' ∧ wpTr P ops Q S r a' w') Q) : wpTr P ops Q S (.e i r) a w :=
  tr_stepL hi hw (Oper.wp_mono (fun _ _ hk => ⟨.inl hk.1, hk.2⟩) h)
/-- The last of all, a store: it need not keep S. -/
theorem tr_last (hi : ops[i]? = some o) (hw : Region.wanted o (yielded ops a.tmps) = true) (hN : o.dst = none) (hz : lastOp .any ops i = true) (hrun : (execOp a.eval o).run P w = .ok .skip w1) (h : Q .normal a w1) : wpTr P ops Q S (.e i .nil) a w := by
  refine tr_stepL hi hw ?_
  unfold Oper.wp
  rw [hrun]
  show (S w1 ∨ _) ∧ wpTr P ops Q S .nil (a.put o.dst undef) w1
  rw [hN]
  exact ⟨.inr ⟨rfl, hz⟩, h⟩
theorem tr_store (hi : ops[i]? = some o) (hw : Region.wanted o (yielded ops a.tmps) = true) (hN : o.dst = none) (hrun : (execOp a.eval o).run P w = .ok .skip w1) (hS : S w1) (h : wpTr P ops Q S r a w1) :
    wpTr P ops Q S (.e i r) a w := by
  refine tr_step hi hw ?_
  unfold Oper.wp
  rw [hrun]
  show S w1 ∧ wpTr P ops Q S r (a.put o.dst undef) w1
  rw [hN]
  exact ⟨hS, h⟩
theorem tr_eoff (ho : ops[i]? = some o) (hw : Region.wanted o (yielded ops a.tmps) = false) (hS : S w) (ha : a.put o.dst undef = a') (h : wpTr P ops Q S r a' w) :
    wpTr P ops Q S (.e i r) a w := by
  show wpOp P ops Q i _ a w
  unfold Go.wpOp
  simp only [ho, hw]
  rw [ha]
  exact ⟨.inl hS, h⟩
theorem tr_end (h : Q .normal a w) : wpTr P ops Q S .nil a w := h
end
end Go.Proofs.YtmdjndhebgnjoaaDoor
