/- A region that draws its order, walked once in the text's order: each operation leaves the same value whatever the order (stable in every world that meets S), or is one of a chain of effects that bring the worlds from S k to S (k + 1). -/
import Derived.OrdersHeld
import Derived.Deep.RegionHeld3
namespace Go.Proofs.YtmdjndhebgnjoaaDoor
set_option linter.unusedVariables false
set_option linter.unusedSimpArgs false
section
variable {P : Program} {ops : Array Oper} {Q : Exit → Act → World → Prop} {S : Nat → World → Prop} {md : Region.Mode} {eff : Nat → Bool}
/-- From every world that meets S the operation comes to the value v, and to a world that meets T. -/
def RunsTo (P : Program) (S T : World → Prop) (m : Sem Next) (v : Value) : Prop :=
  ∀ w, S w → (∃ w', m.run P w = .ok (.value v) w' ∧ T w') ∨ (∃ w', v = undef ∧ m.run P w = .ok .skip w' ∧ T w') ∨
    (∃ f args w1, m.run P w = .ok (.enter f args) w1 ∧ Calls P f args w1 fun e w' => e = .returned v ∧ T w')
/-- Operation o, an effect (b) or stable, in phase k, comes to v. -/
def Stab (P : Program) (ops : Array Oper) (S : Nat → World → Prop) (b : Bool) (k : Nat) (o : Oper) (v : Value) (a : Act) : Prop :=
  (Region.wanted o (yielded ops a.tmps) = true ∧ (b = true → RunsTo P (S k) (S (k + 1)) (execOp a.eval o) v) ∧ (b = false → ∀ k, RunsTo P (S k) (S k) (execOp a.eval o) v)) ∨
  (Region.wanted o (yielded ops a.tmps) = false ∧ v = undef ∧ (b = true → ∀ w, S k w → S (k + 1) w))
def nextK (b : Bool) (k : Nat) : Nat := bif b then k + 1 else k
theorem Stab.same {b : Bool} {k : Nat} {o : Oper} {v : Value} {a a' : Act} (h : Stab P ops S b k o v a) (he : execOp a'.eval o = execOp a.eval o)
    (hw : Region.wanted o (yielded ops a'.tmps) = Region.wanted o (yielded ops a.tmps)) : Stab P ops S b k o v a' := by
  unfold Stab at *
  rw [he, hw]
  exact h
theorem Stab.phase {k k' : Nat} {o : Oper} {v : Value} {a : Act} (h : Stab P ops S false k o v a) : Stab P ops S false k' o v a := by
  rcases h with ⟨h1, _, h3⟩ | ⟨h1, h2, _⟩
  · exact .inl ⟨h1, fun h => (by cases h), h3⟩
  · exact .inr ⟨h1, h2, fun h => (by cases h)⟩
/-- Whatever order is picked. -/
def anyS (P : Program) (md : Region.Mode) (ops : Array Oper) (Q : Exit → Act → World → Prop) (S : Nat → World → Prop) (eff : Nat → Bool) : Nat → Array Bool → Nat → Act → Prop
  | 0, l, k, a => Region.ready md ops l = [] ∧ ∀ w, S k w → Q .normal a w
  | n + 1, l, k, a => (Region.ready md ops l = [] → ∀ w, S k w → Q .normal a w) ∧
    ∀ i ∈ Region.ready md ops l, ∃ o v, ops[i]? = some o ∧ Stab P ops S (eff i) k o v a ∧ anyS P md ops Q S eff n (l.setIfInBounds i true) (nextK (eff i) k) (a.put o.dst v)
theorem wpAny_of_anyS : ∀ (n : Nat) (l : Array Bool) (k : Nat) (a : Act) (w : World), anyS P md ops Q S eff n l k a → S k w → wpAny P md ops Q n l a w
  | 0, _, _, _, w, h, hS => ⟨h.1, h.2 w hS⟩
  | n + 1, l, k, a, w, h, hS => ⟨fun h0 => h.1 h0 w hS, fun i hi => by
    obtain ⟨o, v, ho, hst, hn⟩ := h.2 i hi
    unfold wpOp
    simp only [ho]
    rcases hst with ⟨hw, hE, hT⟩ | ⟨hw, rfl, hE⟩
    · rw [if_pos hw]
      have hR : RunsTo P (S k) (S (nextK (eff i) k)) (execOp a.eval o) v := by
        cases hb : eff i
        · exact hT hb k
        · exact hE hb
      refine .inl ?_
      unfold Oper.wp
      rcases hR w hS with ⟨w', hr, hT'⟩ | ⟨w', rfl, hr, hT'⟩ | ⟨f, args, w1, hr, hc⟩
      · rw [hr]; exact wpAny_of_anyS n _ _ _ w' hn hT'
      · rw [hr]; exact wpAny_of_anyS n _ _ _ w' hn hT'
      · rw [hr, Oper.upon_enter]
        refine hc.mono fun e w' hh => ?_
        obtain ⟨rfl, hT'⟩ := hh
        exact wpAny_of_anyS n _ _ _ w' hn hT'
    · rw [if_neg (by rw [hw]; simp)]
      refine wpAny_of_anyS n _ _ _ w hn ?_
      cases hb : eff i
      · exact hS
      · exact hE hb w hS⟩
theorem anyS_first {i : Nat} {oi : Oper} {v : Value} (hi : ops[i]? = some oi) (hs : ∀ (j : Nat) (o : Oper) cs b, ops[j]? = some o → o.op ≠ .select cs b) :
    ∀ (n : Nat) (l : Array Bool) (k : Nat) (a : Act),
      (∀ j oj, ops[j]? = some oj → j ≠ i → l.getD j true = false → (∀ e ∈ oj.after, Region.binds md e = true → e.on ≠ i) → oi.apart ops oj = true) →
      (eff i = true → ∀ j oj, ops[j]? = some oj → eff j = true → j ≠ i → l.getD j true = false → ∃ e ∈ oj.after, Region.binds md e = true ∧ eff e.on = true ∧ l.getD e.on true = false) →
      i ∈ Region.ready md ops l → Stab P ops S (eff i) k oi v a →
      anyS P md ops Q S eff n (l.setIfInBounds i true) (nextK (eff i) k) (a.put oi.dst v) → anyS P md ops Q S eff (n + 1) l k a := by
  intro n
  induction n with
  | zero =>
    intro l k a _ _ hr hy H
    refine ⟨fun h => (by rw [h] at hr; cases hr), fun j hj => ?_⟩
    by_cases hji : j = i
    · subst hji; exact ⟨oi, v, hi, hy, H⟩
    · have := ready_mono hj hji
      rw [H.1] at this
      cases this
  | succ n ih =>
    intro l k a hfree hch hr hy H
    refine ⟨fun h => (by rw [h] at hr; cases hr), fun j hj => ?_⟩
    by_cases hji : j = i
    · subst hji; exact ⟨oi, v, hi, hy, H⟩
    · obtain ⟨oj, u, hoj, hsj, hrest⟩ := H.2 j (ready_mono hj hji)
      obtain ⟨hjun, oj', hoj', hall⟩ := mem_ready.1 hj
      obtain rfl : oj = oj' := by rw [hoj] at hoj'; exact Option.some.inj hoj'
      have hnot : ∀ e ∈ oj.after, Region.binds md e = true → e.on ≠ i := fun e he hb heq => by
        have h1 := hall e he hb
        have h0 := (mem_ready.1 hr).1
        rw [heq] at h1
        rcases Nat.lt_or_ge i l.size with h' | h'
        · simp [h'] at h0 h1; rw [h0] at h1; cases h1
        · simp [Array.getElem?_eq_none h'] at h1
      obtain ⟨h1, h2, h3⟩ := Oper.apart_spec (hfree j oj hoj hji hjun hnot)
      have hej : eff i = true → eff j = false := fun hei => by
        cases hb : eff j
        · rfl
        · obtain ⟨e, he, hbd, _, hun⟩ := hch hei j oj hoj hb hji hjun
          have h1 := hall e he hbd
          rcases Nat.lt_or_ge e.on l.size with h' | h'
          · simp [h'] at hun h1; rw [hun] at h1; cases h1
          · simp [Array.getElem?_eq_none h'] at h1
      have hsj' : Stab P ops S (eff j) (nextK (eff i) k) oj u a :=
        hsj.same (execOp_put oj (fun cs b => hs j oj cs b hoj) a oi.dst v h1).symm (wanted_put oj a oi.dst v h1).symm
      have hsj2 : Stab P ops S (eff j) k oj u a := by
        have h := hsj'
        cases hb : eff i
        · rw [hb] at h; exact h
        · rw [hej hb] at h ⊢; exact h.phase
      refine ⟨oj, u, hoj, hsj2, ih (l.setIfInBounds j true) (nextK (eff j) k) (a.put oj.dst u) ?_ ?_ (ready_mono hr (Ne.symm hji)) ?_ ?_⟩
      · intro m om hm hmi hun hno
        refine hfree m om hm hmi ?_ hno
        by_cases hjm : j = m
        · subst hjm; exact hjun
        · rw [getD_set_ne true hjm] at hun; exact hun
      · intro hei m om hm hem hmi hun
        have hun' : l.getD m true = false := by
          by_cases hjm : j = m
          · subst hjm; exact hjun
          · rw [getD_set_ne true hjm] at hun; exact hun
        obtain ⟨e, he, hbd, hee, hu⟩ := hch hei m om hm hem hmi hun'
        refine ⟨e, he, hbd, hee, ?_⟩
        rw [getD_set_ne true (fun h => by rw [← h, hej hei] at hee; cases hee)]
        exact hu
      · have h := hy.same (execOp_put oi (fun cs b => hs i oi cs b hi) a oj.dst u h3) (wanted_put oi a oj.dst u h3)
        cases hb : eff i
        · rw [hb] at h; exact h.phase
        · rw [hej hb]; rw [hb] at h; exact h
      · rw [Array.setIfInBounds_comm _ _ hji, ← Act.put_comm a v u h2]
        have e : nextK (eff i) (nextK (eff j) k) = nextK (eff j) (nextK (eff i) k) := by cases eff i <;> cases eff j <;> rfl
        rw [e]
        exact hrest
/-- The walk in the text's order. -/
def stW (P : Program) (ops : Array Oper) (Q : Exit → Act → World → Prop) (S : Nat → World → Prop) (eff : Nat → Bool) : List Oper → Nat → Nat → Act → Prop
  | [], _, k, a => ∀ w, S k w → Q .normal a w
  | o :: r, i, k, a => ∃ v, Stab P ops S (eff i) k o v a ∧ stW P ops Q S eff r (i + 1) (nextK (eff i) k) (a.put o.dst v)
/-- It may be taken, by the region's edges alone. -/
def stB (md : Region.Mode) (ops : Array Oper) (eff : Nat → Bool) : Nat → Nat → Array Bool → Bool
  | 0, _, l => Region.ready md ops l == []
  | n + 1, i, l => Region.free md ops l i && (Region.ready md ops l).contains i &&
    (!eff i || (List.range ops.size).all fun j => !eff j || j == i || l.getD j true || match ops[j]? with | some oj => oj.after.any (fun e => Region.binds md e && eff e.on && !l.getD e.on true) | none => true) &&
    stB md ops eff n (i + 1) (l.setIfInBounds i true)
theorem stW_sound (hs : Region.noSelect ops = true) : ∀ (r : List Oper) (i : Nat) (l : Array Bool) (k : Nat) (a : Act), (∀ j, r[j]? = ops[i + j]?) → stB md ops eff r.length i l = true →
    stW P ops Q S eff r i k a → anyS P md ops Q S eff r.length l k a
  | [], i, l, k, a, _, hb, h => ⟨by simpa [stB] using hb, h⟩
  | o :: r, i, l, k, a, hr, hb, h => by
    simp only [List.length_cons, stB, Bool.and_eq_true] at hb
    obtain ⟨⟨⟨hb1, hb2⟩, hb3⟩, hb4⟩ := hb
    obtain ⟨v, hst, hrest⟩ := h
    have hi : ops[i]? = some o := by have := hr 0; simpa using this.symm
    refine anyS_first hi (Region.noSelect_spec hs) _ _ _ _ (Region.free_spec hi hb1) ?_ (by simpa using hb2) hst
      (stW_sound hs r (i + 1) _ _ _ (fun j => by have := hr (j + 1); rw [List.getElem?_cons_succ] at this; rw [this, show i + (j + 1) = i + 1 + j by omega]) hb4 hrest)
    intro hei j oj hj hej hne hun
    simp only [hei, Bool.not_true, Bool.false_or, List.all_eq_true, List.mem_range] at hb3
    have h1 := hb3 j (Array.getElem?_eq_some_iff.1 hj).1
    simp only [hej, hj, Bool.not_true, Bool.false_or, Bool.or_eq_true, beq_iff_eq, hne, hun, Bool.false_eq_true, false_or] at h1
    obtain ⟨e, he, hb⟩ := Array.any_eq_true'.1 h1
    simp only [Bool.and_eq_true, Bool.not_eq_true'] at hb
    exact ⟨e, he, hb.1.1, hb.1.2, hb.2⟩
/-- The beginning: S 0 holds behind the draw. -/
theorem st_start {id : Nat} {a : Act} {w : World} (S : Nat → World → Prop) (eff : Nat → Bool) (hm : P.follows .mixedOrders = true)
    (hb : (Region.noSelect ops && stB .any ops eff ops.toList.length 0 (Array.replicate ops.size false)) = true) (hS : S 0 w.drew) (h : stW P ops Q S eff ops.toList 0 0 a) : (Code.region id ops true).wp P Q a w := by
  simp only [Bool.and_eq_true] at hb
  refine wp_region_any hm ?_
  have := wpAny_of_anyS _ _ _ _ w.drew (stW_sound hb.1 ops.toList 0 _ 0 a (fun j => by simp) hb.2 h) hS
  rw [Array.length_toList] at this
  exact this
variable {o : Oper} {r : List Oper} {i k : Nat} {a a' : Act} {n : Tmp} {v : Value}
/-- The guard is off. -/
theorem st_off (hN : o.dst = some n) (hw : Region.wanted o (yielded ops a.tmps) = false) (he : eff i = false) (ha : a.put (some n) undef = a') (h : stW P ops Q S eff r (i + 1) k a') : stW P ops Q S eff (o :: r) i k a :=
  ⟨undef, .inr ⟨hw, rfl, fun h => by rw [he] at h; cases h⟩, by rw [hN, ha, he]; exact h⟩
/-- It yields, and leaves the world. -/
theorem st_y (hN : o.dst = some n) (hw : Region.wanted o (yielded ops a.tmps) = true) (he : eff i = false) (hr : ∀ k w', S k w' → (execOp a.eval o).run P w' = .ok (.value v) w') (ha : a.put (some n) v = a') (h : stW P ops Q S eff r (i + 1) k a') :
    stW P ops Q S eff (o :: r) i k a :=
  ⟨v, .inl ⟨hw, fun h => (by rw [he] at h; cases h), fun _ k w' hS => .inl ⟨w', hr k w' hS, hS⟩⟩, by rw [hN, ha, he]; exact h⟩
/-- It yields, and leaves another world. -/
theorem st_v (f : World → World) (hN : o.dst = some n) (hw : Region.wanted o (yielded ops a.tmps) = true) (he : eff i = false) (hr : ∀ k w', S k w' → (execOp a.eval o).run P w' = .ok (.value v) (f w') ∧ S k (f w')) (ha : a.put (some n) v = a') (h : stW P ops Q S eff r (i + 1) k a') :
    stW P ops Q S eff (o :: r) i k a :=
  ⟨v, .inl ⟨hw, fun h => (by rw [he] at h; cases h), fun _ k w' hS => .inl ⟨f w', hr k w' hS⟩⟩, by rw [hN, ha, he]; exact h⟩
theorem st_enters {f : FuncId} {fn : Func} (hf : P.funcs[f]? = some fn) (hname : (fn.name == "runtime.NumGoroutine") = false) (hb : fn.body.isSome = true) (args : Array Value) (w : World) : (callFunc f args).run P w = .ok (.enter f args) w := by
  have h1 : fn.name ≠ "runtime.NumGoroutine" := by simpa using hname
  obtain ⟨b, hb⟩ := Option.isSome_iff_exists.1 hb
  simp [callFunc, hf, h1, hb]
theorem exec_call {f : FuncId} {fn : Func} {as : Array Operand} {ts : Array TypeId} (hf : P.funcs[f]? = some fn) (hname : (fn.name == "runtime.NumGoroutine") = false) (hb : fn.body.isSome = true) (args : Array Value)
    (hop : o.op = .call { callee := .value (.func f), args := as, argTypes := ts }) (hargs : as.map a.eval = args) (w : World) : (execOp a.eval o).run P w = .ok (.enter f args) w := by
  have he := st_enters hf hname hb args w
  unfold execOp
  simp [hop, resolve, Deferred.ofValue, invoke, Act.eval, hargs, he]
/-- A call of a Go function, stable. -/
theorem st_call {f : FuncId} {fn : Func} {as : Array Operand} {ts : Array TypeId} (hf : P.funcs[f]? = some fn) (hname : (fn.name == "runtime.NumGoroutine") = false) (hb : fn.body.isSome = true) (args : Array Value)
    (hw : Region.wanted o (yielded ops a.tmps) = true) (he : eff i = false) (hN : o.dst = some n) (hop : o.op = .call { callee := .value (.func f), args := as, argTypes := ts }) (hargs : as.map a.eval = args)
    (hc : ∀ k w', S k w' → Calls P f args w' fun e w'' => e = .returned v ∧ S k w'') (ha : a.put (some n) v = a') (h : stW P ops Q S eff r (i + 1) k a') : stW P ops Q S eff (o :: r) i k a :=
  ⟨v, .inl ⟨hw, fun h => (by rw [he] at h; cases h), fun _ k w' hS => .inr (.inr ⟨f, args, w', exec_call hf hname hb args hop hargs w', hc k w' hS⟩)⟩, by rw [hN, ha, he]; exact h⟩
/-- A call that is an effect. -/
theorem st_eff {f : FuncId} {fn : Func} {as : Array Operand} {ts : Array TypeId} (hf : P.funcs[f]? = some fn) (hname : (fn.name == "runtime.NumGoroutine") = false) (hb : fn.body.isSome = true) (args : Array Value)
    (hw : Region.wanted o (yielded ops a.tmps) = true) (he : eff i = true) (hop : o.op = .call { callee := .value (.func f), args := as, argTypes := ts }) (hargs : as.map a.eval = args)
    (hc : ∀ w', S k w' → Calls P f args w' fun e w'' => e = .returned v ∧ S (k + 1) w'') (ha : a.put o.dst v = a') (h : stW P ops Q S eff r (i + 1) (k + 1) a') : stW P ops Q S eff (o :: r) i k a :=
  ⟨v, .inl ⟨hw, fun _ w' hS => .inr (.inr ⟨f, args, w', exec_call hf hname hb args hop hargs w', hc w' hS⟩), fun h => (by rw [he] at h; cases h)⟩, by rw [ha, he]; exact h⟩
/-- A store, an effect. -/
theorem st_store (f : World → World) (hN : o.dst = none) (hw : Region.wanted o (yielded ops a.tmps) = true) (he : eff i = true) (hr : ∀ w', S k w' → (execOp a.eval o).run P w' = .ok .skip (f w') ∧ S (k + 1) (f w')) (h : stW P ops Q S eff r (i + 1) (k + 1) a) :
    stW P ops Q S eff (o :: r) i k a :=
  ⟨undef, .inl ⟨hw, fun _ w' hS => .inr (.inl ⟨f w', rfl, hr w' hS⟩), fun h => (by rw [he] at h; cases h)⟩, by rw [hN, he]; exact h⟩
theorem st_end (h : ∀ w, S k w → Q .normal a w) : stW P ops Q S eff [] i k a := h
end
end Go.Proofs.YtmdjndhebgnjoaaDoor
