/- A range over a function, walked in the plain way: the loop's record, a round, what the iterator must say. (and what follows) -/
import Derived.Test.YtjcpgjnogcmalaaDoorT4
import Derived.RangeFuncRecord
import Derived.RangeFuncSeq
import Derived.RangeFuncOwn
import Derived.RangeFuncLeaves
import Derived.TacticsIn
import Derived.Test.YtjcpgjnogcmalaaDoorT6
import Derived.Test.YtjcpgjnogcmalaaDoorT1
/-! A range over a function, walked in the plain way: the loop's record, a round, what the iterator must say. -/
namespace Go.Proofs.YtjcpgjnogcmalaaDoor
set_option linter.unusedVariables false
set_option linter.unusedSimpArgs false
open Go.RowKit
/-- The cells of the blocks that p picks stay. -/
structure KeepP (p : Nat → Prop) (w w' : World) : Prop where
  size : w.heap.size ≤ w'.heap.size
  cells : ∀ b cs t z, p b → w.heap[b]? = some (.cells cs t z) → w'.heap[b]? = some (.cells cs t z)
section
variable {p : Nat → Prop} {a b c w w' : World}
theorem KeepP.refl : KeepP p w w := ⟨Nat.le_refl _, fun _ _ _ _ _ h => h⟩
theorem KeepP.trans (h : KeepP p a b) (k : KeepP p b c) : KeepP p a c := ⟨Nat.le_trans h.size k.size, fun i cs t z hp hc => k.cells i cs t z hp (h.cells i cs t z hp hc)⟩
theorem KeepP.put {l : Nat} {o : Obj} (o' : Obj) (h : w.heap[l]? = some o) (ho : o.isCells = false) : KeepP p w (w.putObj l o') := ⟨by simp, fun i cs t z _ hc => by
  by_cases e : i = l
  · subst e; rw [h] at hc; cases hc; cases ho
  · rw [World.putObj_heap_other e]; exact hc⟩
theorem KeepP.ext (h : Ext w w') : KeepP p w w' := ⟨h.le, fun i cs t z _ hc => h.blk hc⟩
theorem KeepP.exc {lo hi : Nat} (h : Exc lo hi w w') (hp : ∀ b, p b → b < lo ∨ hi ≤ b) : KeepP p w w' := ⟨h.size, fun i cs t z pb hc => by
  rw [h.block i (Array.getElem?_eq_some_iff.1 hc).1 (hp i pb)]; exact hc⟩
theorem KeepP.blk {g : Nat} {t : TypeId} {cs : Array Value} (h : KeepP p w w') (B : Blk w g t cs) (hp : p g) : Blk w' g t cs := h.cells g cs t (0, 0) hp B
theorem cell_obj {x : Addr} {v : Value} (h : w.cell? x = some v) : ∃ cs t z, w.heap[x.block]? = some (.cells cs t z) := by
  unfold World.cell? at h
  cases ho : w.heap[x.block]? with
  | none => simp [ho] at h
  | some o => cases o <;> simp_all
theorem KeepP.cell {x : Addr} {v : Value} (h : KeepP p w w') (hc : w.cell? x = some v) (hp : p x.block) : w'.cell? x = some v := by
  obtain ⟨cs, t, z, ho⟩ := cell_obj hc
  have h1 := h.cells _ cs t z hp ho
  unfold World.cell? at hc ⊢
  rw [ho] at hc
  rw [h1]
  exact hc
/-- What could be read in a elder world can be read now. -/
theorem KeepP.cle {w0 : World} (h : KeepP p w w') (hE : Cle w0 w) (hp : ∀ b, b < w0.heap.size → p b) : Cle w0 w' := fun x v hx => h.cell (hE x v hx) (hp _ (World.block_lt_of_cell? w0 x hx))
theorem Blk.put {g : Nat} {t : TypeId} {cs : Array Value} {l : Nat} (B : Blk w g t cs) (hl : g ≠ l) (o : Obj) : Blk (w.putObj l o) g t cs := (World.putObj_heap_other hl).trans B
theorem Ext.put {l : Nat} (h : Ext w w') (hl : w.heap.size ≤ l) (o : Obj) : Ext w (w'.putObj l o) := ⟨h.os, h.tape, h.output, by simpa using h.size, fun k hk => (World.putObj_heap_other (by omega)).trans (h.block k hk)⟩
end
section
variable {F : Fence} {n : Nat} {P : Program} {ops : Array Oper} {Q : Exit → Act → World → Prop} {a a' : Act} {w w1 : World} {r : List Oper} {o : Oper} {v : Value} {d : Tmp}
theorem pi_v (hF : ∀ f, F.fn f) (hg : o.guard = none) (hs : Oper.semAt F.round a.eval o = execOp a.eval o) (hN : o.dst = some d) (hr : (execOp a.eval o).run P w = .ok (.value v) w1) (ha : a.put (some d) v = a') (h : wpListIn F n P ops Q r a' w1) : wpListIn F n P ops Q (o :: r) a w :=
  wpListIn_plain hg fun K hK => by
    refine ⟨fun f _ => hF f, ?_⟩
    rw [hs, hr]
    refine hK _ _ ?_
    rw [hN, ha]; exact h
theorem pi_y (hF : ∀ f, F.fn f) (hg : o.guard = none) (hs : Oper.semAt F.round a.eval o = execOp a.eval o) (hN : o.dst = some d) (hr : (execOp a.eval o).run P w = .ok (.value v) w) (ha : a.put (some d) v = a') (h : wpListIn F n P ops Q r a' w) : wpListIn F n P ops Q (o :: r) a w := pi_v hF hg hs hN hr ha h
theorem pi_store (hF : ∀ f, F.fn f) (hg : o.guard = none) (hs : Oper.semAt F.round a.eval o = execOp a.eval o) (hN : o.dst = none) (hr : (execOp a.eval o).run P w = .ok .skip w1) (h : wpListIn F n P ops Q r a w1) : wpListIn F n P ops Q (o :: r) a w :=
  wpListIn_plain hg fun K hK => by
    refine ⟨fun f _ => hF f, ?_⟩
    rw [hs, hr]
    refine hK _ _ ?_
    rw [hN]; exact h
theorem pi_round {l f : Nat} {tmps : Array Value} {assign body : Code} (hF : ∀ f, F.fn f) (hD : F.depth = none) (hg : o.guard = none) (hs : Oper.semAt F.round a.eval o = execOp a.eval o) (hN : o.dst = some d) (hr : (execOp a.eval o).run P w = .ok (.round l f tmps assign body) w)
    (h : RoundIn F (n - 1) P l f tmps assign body w fun e w' => ∃ v a', e = .returned v ∧ a.put (some d) v = a' ∧ wpListIn F n P ops Q r a' w') : wpListIn F n P ops Q (o :: r) a w :=
  wpListIn_plain hg fun K hK => by
    refine ⟨fun f _ => hF f, ?_⟩
    rw [hs, hr]
    refine ⟨fun hd => (by rw [hD] at hd; cases hd), h.mono ?_⟩
    rintro e w' ⟨v, a', rfl, ha, hk⟩
    refine hK _ _ ?_
    rw [hN, ha]; exact hk
theorem pi_call {f : FuncId} {fn : Func} {ars : Array Operand} {ts : Array TypeId} (hF : ∀ f, F.fn f) (hD : F.depth = none) (hg : o.guard = none) (hs : Oper.semAt F.round a.eval o = execOp a.eval o) (hf : P.funcs[f]? = some fn) (hname : (fn.name == "runtime.NumGoroutine") = false) (hb : fn.body.isSome = true) (args : Array Value) (hN : o.dst = some d) (hop : o.op = .call { callee := .value (.func f), args := ars, argTypes := ts })
    (hargs : ars.map a.eval = args) (h : Calls P f args w fun e w' => ∃ v a', e = .returned v ∧ a.put (some d) v = a' ∧ wpListIn F n P ops Q r a' w') (hwide : ∀ R, Calls P f args w R → CallsIn F (n - 1) P f args w R) : wpListIn F n P ops Q (o :: r) a w :=
  wpListIn_plain hg fun K hK => by
    refine ⟨fun f _ => hF f, ?_⟩
    rw [hs, exec_call hf hname hb args hop hargs]
    refine ⟨fun hd => (by rw [hD] at hd; cases hd), (hwide _ h).mono ?_⟩
    rintro e w' ⟨v, a', rfl, ha, hk⟩
    refine hK _ _ ?_
    rw [hN, ha]; exact hk
end
/-- What a round that is walked must come to. -/
def RoundEnd (l D : Nat) (J : World → Prop) (W2 : World) (e : Exit) (W3 : World) : Prop := match e with
  | .normal => W3.heap[l]? = W2.heap[l]? ∧ W3.heap[D]? = W2.heap[D]? ∧ J W3
  | _ => False
/-- **The statement 'for x := range f', where no round leaves.** -/
theorem wp_range {α : Type} {P : Program} {g : Operand} {ps : Array Tmp} {assign body : Code} {Q : Exit → Act → World → Prop} {a : Act} {w : World} {gf : Nat} {lb : Array Value}
    (hg : a.eval g = .func (.func gf) #[] lb) (eg : ∀ args w, (callFunc gf args).run P w = .ok (.enter gf args) w)
    {encs : α → Array Value} (hps : ∀ x, (encs x).size = ps.size) (xs : List α) (p : Nat → Prop) (Ab : World → World → Prop) (I : Nat → World → Prop)
    (hseq : ∀ W, Ext w W → W.heap.size = w.heap.size + 2 → ∀ J : Nat → World → Prop, (∀ k A B, J k A → Ab A B → J k B) →
      (∀ k (hk : k < xs.length) A, J k A → YieldAt Fence.wide 0 P (w.heap.size + 1) (encs (xs[k]'hk)) A fun e B => e = .returned (.bool true) ∧ J (k + 1) B ∧ KeepP p A B) →
      J 0 W → CallsIn Fence.wide 0 P gf (#[.func (.yield (w.heap.size + 1)) #[] #[]] ++ lb) W fun e B => (∃ v, e = .returned v) ∧ J xs.length B)
    (hAb : ∀ A B, Ab A B → ∀ j, j = w.heap.size ∨ j = w.heap.size + 1 → B.heap[j]? = A.heap[j]?)
    (hIab : ∀ k A B, I k A → Ab A B → I k B)
    (hIput : ∀ k A o, I k A → I k (A.putObj (w.heap.size + 1) o))
    (h0 : ∀ W, Ext w W → W.heap.size = w.heap.size + 2 → I 0 W)
    (hround : ∀ k (hk : k < xs.length) W, I k W → w.heap.size + 2 ≤ W.heap.size → ∀ o, W.heap[w.heap.size + 1]? = some o → o.isCells = false →
      assign.wpIn (Fence.wide.inRound (w.heap.size + 1)) 0 P (Exit.then (fun a1 W1 => W1.heap[w.heap.size + 1]? = W.heap[w.heap.size + 1]? ∧ W1.heap[w.heap.size]? = W.heap[w.heap.size]? ∧
        ∀ o', body.wpIn (Fence.wide.inRound (w.heap.size + 1)) 0 P (fun e _ W3 => RoundEnd (w.heap.size + 1) w.heap.size (fun W3 => I (k + 1) W3 ∧ KeepP p W W3) (W1.putObj (w.heap.size + 1) o') e W3) a1 (W1.putObj (w.heap.size + 1) o')) (fun _ _ _ => False))
        { tmps := (ps.zip (encs (xs[k]'hk))).foldl (fun t (p, v) => t.setIfInBounds p v) a.tmps, defers := [] } W)
    (hdone : ∀ W, I xs.length W → W.heap[w.heap.size]? = some (.deferred (some [])) → Q .normal { a with defers := [{ target := .collected w.heap.size, args := #[] }] ++ a.defers } W) :
    (Code.rangeFunc g ps assign body).wp P Q a w := by
  refine (wpIn_wide (n := 0)).1 (wpIn_rangeFunc ?_)
  intro fn _
  obtain ⟨L, hL⟩ : ∃ L : LoopState → Option Code → Loop, L = fun st pe => { state := st, pending := pe, fn, tmps := a.tmps, params := ps, assign, body, defers := w.heap.size } := ⟨_, rfl⟩
  obtain ⟨W, hW⟩ : ∃ W, (w.alloc (.deferred (some []))).alloc (.loop (L .ready none)) = W := ⟨_, rfl⟩
  have eW : Ext w W := by rw [← hW]; exact ((Ext.refl _).alloc _).alloc _
  have sW : W.heap.size = w.heap.size + 2 := by rw [← hW]; simp
  have rL : W.heap[w.heap.size + 1]? = some (.loop (L .ready none)) := by
    rw [← hW]; have := World.alloc_heap_new (w.alloc (.deferred (some []))) (.loop (L .ready none)); rwa [World.size_alloc] at this
  have rD : W.heap[w.heap.size]? = some (.deferred (some [])) := by
    rw [← hW]; exact (Below.heap_alloc _ _ _ (by simp)).trans (World.alloc_heap_new w _)
  refine ⟨w.heap.size + 1, [{ target := .collected w.heap.size, args := #[] }], W, { target := .fn (.func gf) lb, args := #[.func (.yield (w.heap.size + 1)) #[] #[]] }, W, gf, #[.func (.yield (w.heap.size + 1)) #[] #[]] ++ lb, W, ?_, ?_, fun _ _ => trivial, ?_, fun h => (by cases h), ?_⟩
  · rw [← hW, hL]; exact run_enterLoop_outer _ _ _ _ _
  · simp only [resolve, hg]
    simp [go_sem]
  · simp [invoke, go_sem, eg]
  · refine (hseq W eW sW (fun k A => (I k A ∧ W.heap.size ≤ A.heap.size) ∧ A.heap[w.heap.size + 1]? = some (.loop (L .ready none)) ∧ A.heap[w.heap.size]? = some (.deferred (some []))) ?_ ?_ ⟨⟨h0 W eW sW, Nat.le_refl _⟩, rL, rD⟩).mono ?_
    · rintro k A B ⟨⟨hi, hs⟩, hl, hd⟩ hab
      have e1 := hAb A B hab _ (.inr rfl)
      have e2 := hAb A B hab _ (.inl rfl)
      refine ⟨⟨hIab k A B hi hab, ?_⟩, e1.trans hl, e2.trans hd⟩
      have := (Array.getElem?_eq_some_iff.1 (e1.trans hl)).1
      omega
    · rintro k hk A ⟨⟨hi, hs⟩, hl, hd⟩
      have hy := run_yield (P := P) (args := encs (xs[k]'hk)) hl (by rw [hL]; exact hps _)
      rw [hL] at hy
      refine ⟨fn, _, assign, body, hy, roundIn_of_wpIn trivial ?_⟩
      refine wpIn_mono (hround k hk A hi (by omega) _ hl rfl) ?_
      rintro e a1 W1 hp
      cases e with
      | normal =>
        obtain ⟨h1, h2, h3⟩ := hp
        have hl1 := h1.trans hl
        have hlt : w.heap.size + 1 < W1.heap.size := (Array.getElem?_eq_some_iff.1 hl1).1
        refine ⟨_, run_beginRound hl1 (by rw [hL]), ?_⟩
        refine wpIn_mono (h3 _) ?_
        rintro e a2 W3 hp
        cases e with
        | normal =>
          obtain ⟨h4, h5, h6, h7⟩ := hp
          rw [World.putObj_heap_same hlt] at h4
          rw [World.putObj_heap_other (by omega)] at h5
          have he := run_endRound (P := P) none h4
          refine ⟨_, _, he, rfl, ⟨⟨hIput _ _ _ h6, ?_⟩, ?_, ?_⟩, h7.trans (KeepP.put _ h4 rfl)⟩
          · have := h7.size; simp; omega
          · rw [World.putObj_heap_same (Array.getElem?_eq_some_iff.1 h4).1, hL]; rfl
          · exact (World.putObj_heap_other (by omega)).trans (h5.trans (h2.trans hd))
        | ret => exact hp.elim
        | exit id => exact hp.elim
        | goto t => exact hp.elim
        | panic ch => exact hp.elim
        | outgrown => exact hp.elim
      | ret => exact hp.elim
      | exit id => exact hp.elim
      | goto t => exact hp.elim
      | panic ch => exact hp.elim
      | outgrown => exact hp.elim
    · rintro e W2 ⟨⟨v, rfl⟩, ⟨hi, _⟩, hl, hd⟩
      have := run_endLoop (P := P) hl (by rw [hL]; simp)
      rw [hL] at this
      exact ⟨none, _, this, hdone _ (hIput _ _ _ hi) ((World.putObj_heap_other (by omega)).trans hd)⟩
/-- The way out of a function that holds such a loop. -/
theorem leave_mark {P : Program} {fn : Func} {R : Ending → World → Prop} {tmps : Array Value} {W : World} {D : Nat} {v : Value} (hK : W.heap[D]? = some (.deferred (some [])))
    (hr : (results fn tmps).run P (W.putObj D (.deferred none)) = .ok v (W.putObj D (.deferred none))) (hR : R (.returned v) (W.putObj D (.deferred none))) :
    bodyPostM Fence.wide 0 P fn R .ret { tmps, defers := [{ target := .collected D, args := #[] }] } W :=
  ⟨by simp, .inl ⟨_, _, rfl, run_takeDeferred hK, ⟨_, hr, hR⟩⟩⟩
end Go.Proofs.YtjcpgjnogcmalaaDoor

/-! A token's chain, by the program: the iterator, and the last code. -/
namespace Go.Proofs.YtjcpgjnogcmalaaDoor
set_option linter.unusedVariables false
set_option linter.unusedSimpArgs false
open Go.RowKit
/-- The codes of a chain. -/
def chAt (root : List UInt8) (t : Tok) (k : Nat) : List UInt8 := (t.gs.take k).foldl (fun s g => macB s (gB g)) (macB root (txtB t.ten ++ num8 t.id))
def chain (root : List UInt8) (t : Tok) : List UInt8 := chAt root t t.gs.length
theorem chAt_succ (root : List UInt8) (t : Tok) (k : Nat) (h : k < t.gs.length) : chAt root t (k + 1) = macB (chAt root t k) (gB t.gs[k]) := by
  unfold chAt
  rw [List.take_succ_eq_append_getElem h, List.foldl_append]
  rfl
theorem chAt_len (root : List UInt8) (t : Tok) (k : Nat) : (chAt root t k).length = 32 := by
  unfold chAt
  generalize t.gs.take k = l
  have h : ∀ (l : List Grant) (s : List UInt8), s.length = 32 → (l.foldl (fun s g => macB s (gB g)) s).length = 32 := by
    intro l
    induction l with
    | nil => exact fun s h => h
    | cons g l ih => exact fun s _ => ih _ (macB_len _ _)
  exact h l _ (macB_len _ _)
theorem gB_pos (g : Grant) : 0 < (gB g).length := by
  unfold gB
  simp only [List.length_append, num8_len]
  omega
theorem KAt.cle {w w' : World} (h : KAt w) (e : Cle w w') : KAt w' := fun t ht => e _ _ (h t ht)
theorem IAt.cle {w w' : World} (h : IAt w) (e : Cle w w') : IAt w' := fun t ht => e _ _ (h t ht)
theorem KAt.lt {w : World} (h : KAt w) : 1 < w.heap.size := World.block_lt_of_cell? w _ (h 0 (by omega))
/-- Codes of bytes of the call's own. -/
theorem macOf_own (w : World) (rb : Nat) (T : TypeId) (k : List UInt8) (hk : k.length = 32) (Br : Blk w rb T (macA k)) {B N : Nat} {v : Value} {b : List UInt8} (hb : OwnN B N w v b) (h0 : 0 < b.length) (hN : N ≤ 1000000000) (hK : KAt w) (hI : IAt w) :
    Calls Tryd.prog 17 #[.slice (some ⟨rb, 0, none⟩) 32 32, v] w fun e w' => e = .returned (.agg (macA (macB k b))) ∧ Ext w w' := by
  obtain ⟨A, c, rfl, hc, hS⟩ := hb.1.sl
  have h := macOf_any w (some ⟨rb, 0, none⟩) 32 k A c b hK hI (by rw [hk]; exact macA_sl Br hk) (by omega) (by omega) hS hc h0 (Nat.le_trans hb.2.1 hN) hK.lt
  rw [hk] at h
  exact h
theorem macChain_own (w : World) (s : List UInt8) (hs : s.length = 32) {B N : Nat} {v : Value} {b : List UInt8} (hb : OwnN B N w v b) (h0 : 0 < b.length) (hN : N ≤ 1000000000) (hK : KAt w) (hI : IAt w) :
    Calls Tryd.prog 21 #[.agg (macA s), v] w fun e w' => e = .returned (.agg (macA (macB s b))) ∧ Ext w w' := by
  obtain ⟨A, c, rfl, hc, hS⟩ := hb.1.sl
  exact macChain_any w s hs A c b hK hI hS hc h0 (Nat.le_trans hb.2.1 hN) hK.lt
theorem key5 {α β γ δ ε : Type} {p : Prop} (F G : α → β → γ → δ → ε → Prop) (h : (∀ a b c d e, F a b c d e → G a b c d e) → p) (k : ∀ a b c d e, F a b c d e → G a b c d e) : p := h k
/-- The iterator at work: k codes are told. -/
structure ChSt (w0 w A : World) (rb tb sb : Nat) (root : List UInt8) (t : Tok) (a : Value) (k : Nat) : Prop where
  cle : Cle w0 A
  br : Blk A rb 23 (macA root)
  bt : Blk A tb 27 (tokA t a)
  bs : Blk A sb 25 (macA (chAt root t k))
  ps : w.heap.size ≤ sb
theorem ChSt.keep {w0 w A A' : World} {rb tb sb B : Nat} {root : List UInt8} {t : Tok} {a : Value} {k : Nat} (h : ChSt w0 w A rb tb sb root t a k) (hk : KeepP (· ≠ B) A A') (h0 : w0.heap.size ≤ B) (h1 : rb ≠ B) (h2 : tb ≠ B) (hB : B < w.heap.size) : ChSt w0 w A' rb tb sb root t a k :=
  ⟨hk.cle h.cle (fun b hb => by show b ≠ B; omega), hk.blk h.br h1, hk.blk h.bt h2, hk.blk h.bs (by have := h.ps; show sb ≠ B; omega), h.ps⟩
theorem ChSt.ext {w0 w A A' : World} {rb tb sb : Nat} {root : List UInt8} {t : Tok} {a : Value} {k : Nat} (h : ChSt w0 w A rb tb sb root t a k) (e : Ext A A') : ChSt w0 w A' rb tb sb root t a k :=
  ⟨h.cle.trans e.cle, h.br.ext e, h.bt.ext e, h.bs.ext e, h.ps⟩
end Go.Proofs.YtjcpgjnogcmalaaDoor
namespace Go.Proofs.YtjcpgjnogcmalaaDoor.Three
set_option linter.unusedVariables false
set_option linter.unusedSimpArgs false
open Go.RowKit
set_option maxHeartbeats 9000000 in
set_option maxRecDepth 100000 in
theorem chain1_any (w0 w : World) (l rb tb B : Nat) (root : List UInt8) (t : Tok) (a : Value) (hr : root.length = 32) (ht : TokFit t) (hK : KAt w0) (hI : IAt w0) (hG : GsV w0 t.gs a) (hC : Cle w0 w) (h0 : w0.heap.size ≤ B) (hB1 : rb ≠ B) (hB2 : tb ≠ B) (hBw : B < w.heap.size)
    (Br : Blk w rb 23 (macA root)) (Bt : Blk w tb 27 (tokA t a)) (J : Nat → World → Prop) (hJ : ∀ k A A', J k A → Below w.heap.size A A' → J k A')
    (hY : ∀ k (hk : k < t.gs.length + 1) A, J k A → YieldAt Fence.wide 0 Tryd.prog l #[.agg (macA (chAt root t k))] A fun e A' => e = .returned (.bool true) ∧ J (k + 1) A' ∧ KeepP (· ≠ B) A A') (hJ0 : J 0 w) :
    CallsIn Fence.wide 0 Tryd.prog 96 #[.func (.yield l) #[] #[], .pointer (some ⟨rb, 0, none⟩), .pointer (some ⟨tb, 0, none⟩)] w fun e A => (∃ v, e = .returned v) ∧ J (t.gs.length + 1) A := by
  refine callsIn_wide.2 ?_
  obtain ⟨A, c, rfl, hc, hS⟩ := hG
  obtain ⟨n, hln⟩ : ∃ n, t.gs.length = n := ⟨_, rfl⟩
  rw [hln] at hc hS Bt hY ⊢
  have HL := Lib.hid hln
  have hn : n ≤ 100 := by have := ht.n; omega
  have x0 := Bt.cell 0 (v := .string t.ten) rfl
  have xf0 := Bt.frozen 0
  have x1 := Bt.cell 1 (v := .int .i64 t.id) rfl
  have xf1 := Bt.frozen 1
  have x2 := Bt.cell 2 (v := .slice A n c) rfl
  have xf2 := Bt.frozen 2
  have xr0 := fun (w' : World) (h : Ext w w') => h.cellk x0
  have xr1 := fun (w' : World) (h : Ext w w') => h.cellk x1
  have xr2 := fun (w' : World) (h : Ext w w') => h.cellk x2
  have hY0 : Ext w w := Ext.refl w
  have hKw := hK.cle hC
  have hIw := hI.cle hC
  have hKk := fun (w' : World) (h : Ext w w') => hKw.ext h
  have hIk := fun (w' : World) (h : Ext w w') => hIw.ext h
  obtain ⟨CS, hCS⟩ : ∃ C, macA (macB root (txtB t.ten ++ num8 t.id)) = C := ⟨_, rfl⟩
  have szS : CS.size = 32 := by rw [← hCS]; exact macA_size _
  have oneS : CS.all (·.oneCell') = true := by rw [← hCS]; exact macA_one _
  have hof := fun (w' : World) (h : Ext w w') {B' N : Nat} {v : Value} (hb : OwnN B' N w' v (txtB t.ten ++ num8 t.id)) (hN : N ≤ 1000000000) => macOf_own w' rb 23 root hr (Br.ext h) hb (by rw [List.length_append, num8_len]; omega) hN (hKk w' h) (hIk w' h)
  rw [hCS] at hof
  have HCS := Lib.hid hCS
  clear hCS
  obtain ⟨T, hT⟩ : ∃ T, tokA t (.slice A n c) = T := ⟨_, rfl⟩
  have HT := Lib.hid hT
  rw [hT] at Bt
  clear hT hln x0 x1 x2 xf0 xf1 xf2
  go_enter Tryd.func96, Tryd.ntmps96
  go_upto_region 0 with fail
  apply key5 (F := fun (g4 g13 : Nat) (u10 u14 : Value) (wx : World) => Blk wx g4 25 CS ∧ Ext w wx ∧ w.heap.size ≤ g4)
  · intro key
    refine wp_region_noPanic ?_
    refine tr_start (.y 0 (.y 1 (.y 2 (.y 4 (.y 5 (.three 3 6 9 (.two 6 9 (.two 7 9 (.two 8 9 (.e 9 (.e 10 .nil)) (.e 8 (.e 10 .nil))) (.e 7 (.e 8 (.e 10 .nil)))) (.e 6 (.e 7 (.e 8 (.e 10 .nil))))) (.two 3 9 (.two 7 9 (.two 8 9 (.e 9 (.e 10 .nil)) (.e 8 (.e 10 .nil))) (.e 7 (.e 8 (.e 10 .nil)))) (.e 3 (.e 7 (.e 8 (.e 10 .nil))))) (.two 3 6 (.e 6 (.e 7 (.e 8 (.e 10 .nil)))) (.e 3 (.e 7 (.e 8 (.e 10 .nil))))))))))) (fun w' => Ext w w') (by kernel_rfl) (by as_aux_lemma => kernel_rfl) (fun _ _ _ _ _ h => h) (by (repeat (first | assumption | exact Ext.refl _ | refine Ext.drew ?_ | refine Ext.alloc ?_ _ | refine Ext.drewN ?_ _ | refine Ext.trans ?_ (by assumption)))) ?_
    have e0 : Ext w w.drew := (Ext.refl _).drew
    generalize w.drew = q0 at e0 ⊢
    have hY0 := hY0.trans e0
    (first | (refine tr_off (a' := ?_) rfl rfl (by rfl) ?_ ?_; rotate_left 1; (· simp only [Act.put, List.setIfInBounds_toArray, List.set_cons_zero, List.set_cons_succ]; rfl)) | (refine tr_y (v := ?_) (a' := ?_) rfl rfl (by rfl) (fun w' hw' => ?_) ?_ ?_; rotate_left 2; (· go_simp; with_reducible rfl); (· simp only [Act.put, List.setIfInBounds_toArray, List.set_cons_zero, List.set_cons_succ]; rfl)))
    (first | (refine tr_off (a' := ?_) rfl rfl (by rfl) ?_ ?_; rotate_left 1; (· simp only [Act.put, List.setIfInBounds_toArray, List.set_cons_zero, List.set_cons_succ]; rfl)) | (refine tr_y (v := ?_) (a' := ?_) rfl rfl (by rfl) (fun w' hw' => ?_) ?_ ?_; rotate_left 2; (· go_simp; with_reducible rfl); (· simp only [Act.put, List.setIfInBounds_toArray, List.set_cons_zero, List.set_cons_succ]; rfl)))
    (first | (refine tr_off (a' := ?_) rfl rfl (by rfl) ?_ ?_; rotate_left 1; (· simp only [Act.put, List.setIfInBounds_toArray, List.set_cons_zero, List.set_cons_succ]; rfl)) | (refine tr_y (v := ?_) (a' := ?_) rfl rfl (by rfl) (fun w' hw' => ?_) ?_ ?_; rotate_left 2; (· go_simp; with_reducible rfl); (· simp only [Act.put, List.setIfInBounds_toArray, List.set_cons_zero, List.set_cons_succ]; rfl)))
    (first | (refine tr_off (a' := ?_) rfl rfl (by rfl) ?_ ?_; rotate_left 1; (· simp only [Act.put, List.setIfInBounds_toArray, List.set_cons_zero, List.set_cons_succ]; rfl)) | (refine tr_y (v := ?_) (a' := ?_) rfl rfl (by rfl) (fun w' hw' => ?_) ?_ ?_; rotate_left 2; (· go_simp; with_reducible rfl); (· simp only [Act.put, List.setIfInBounds_toArray, List.set_cons_zero, List.set_cons_succ]; rfl)))
    (first | (refine tr_off (a' := ?_) rfl rfl (by rfl) ?_ ?_; rotate_left 1; (· simp only [Act.put, List.setIfInBounds_toArray, List.set_cons_zero, List.set_cons_succ]; rfl)) | (refine tr_y (v := ?_) (a' := ?_) rfl rfl (by rfl) (fun w' hw' => ?_) ?_ ?_; rotate_left 2; (· go_simp; with_reducible rfl); (· simp only [Act.put, List.setIfInBounds_toArray, List.set_cons_zero, List.set_cons_succ]; rfl)))
    refine tr_three ?_ ?_ ?_
    · refine tr_call (args := ?_) rfl Tryd.func19 (by kernel_rfl) rfl (by rfl) rfl rfl ?_ ?_
      rotate_left 1
      · go_simp; rfl
      (with_reducible refine (textL (Buf.nil _) (by omega) w.heap.size (Ext.le hY0) t.ten ht.ten).mono ?_)
      rintro e q1 ⟨u10, rfl, hO10, e1⟩
      have hY1 := hY0.trans e1
      refine ⟨_, _, rfl, hY1, (by simp only [Act.put, List.setIfInBounds_toArray, List.set_cons_zero, List.set_cons_succ]; rfl), ?_⟩
      refine tr_two ?_ ?_
      · have b13 := Blk.new q1 3 #[.int .i64 t.id]
        have e2 : Ext q1 (q1.alloc (.cells #[.int .i64 t.id] 3)) := (Ext.refl _).alloc _
        have hY2 := hY1.trans e2
        refine tr_value (v := ?_) (w1 := ?_) (a' := ?_) rfl rfl (by rfl) ?_ ?_ ?_ ?_
        rotate_left 3
        · go_simp; refine ⟨?_, ?_⟩ <;> with_reducible rfl
        · exact hY2
        · simp only [Act.put, List.setIfInBounds_toArray, List.set_cons_zero, List.set_cons_succ]; rfl
        have l13 : w.heap.size ≤ q1.heap.size := Ext.le hY1
        generalize q1.alloc (.cells #[.int .i64 t.id] 3) = q2 at b13 e2 hY2 ⊢
        generalize q1.heap.size = g13 at b13 l13 ⊢
        refine tr_two ?_ ?_
        · refine tr_call (args := ?_) rfl Tryd.func63 (by kernel_rfl) rfl (by rfl) rfl rfl ?_ ?_
          rotate_left 1
          · go_simp; rfl
          (with_reducible refine (tints1 (hO10.ext e2).buf w.heap.size (Ext.le hY2) (by omega) t.id b13 ht.id).mono ?_)
          rintro e q3 ⟨u14, rfl, hO14, e3⟩
          have hY3 := hY2.trans e3
          refine ⟨_, _, rfl, hY3, (by simp only [Act.put, List.setIfInBounds_toArray, List.set_cons_zero, List.set_cons_succ]; rfl), ?_⟩
          refine tr_two ?_ ?_
          · refine tr_call (args := ?_) rfl Tryd.func17 (by kernel_rfl) rfl (by rfl) rfl rfl ?_ ?_
            rotate_left 1
            · go_simp; rfl
            (with_reducible refine (hof _ hY3 (hO14.re (by simp)) (by omega)).mono ?_)
            rintro e q4 ⟨rfl, e4⟩
            have hY4 := hY3.trans e4
            refine ⟨_, _, rfl, hY4, (by simp only [Act.put, List.setIfInBounds_toArray, List.set_cons_zero, List.set_cons_succ]; rfl), ?_⟩
            have b4 := Blk.new q4 25 #[.int .u8 0, .int .u8 0, .int .u8 0, .int .u8 0, .int .u8 0, .int .u8 0, .int .u8 0, .int .u8 0, .int .u8 0, .int .u8 0, .int .u8 0, .int .u8 0, .int .u8 0, .int .u8 0, .int .u8 0, .int .u8 0, .int .u8 0, .int .u8 0, .int .u8 0, .int .u8 0, .int .u8 0, .int .u8 0, .int .u8 0, .int .u8 0, .int .u8 0, .int .u8 0, .int .u8 0, .int .u8 0, .int .u8 0, .int .u8 0, .int .u8 0, .int .u8 0]
            have e5 : Ext q4 (q4.alloc (.cells #[.int .u8 0, .int .u8 0, .int .u8 0, .int .u8 0, .int .u8 0, .int .u8 0, .int .u8 0, .int .u8 0, .int .u8 0, .int .u8 0, .int .u8 0, .int .u8 0, .int .u8 0, .int .u8 0, .int .u8 0, .int .u8 0, .int .u8 0, .int .u8 0, .int .u8 0, .int .u8 0, .int .u8 0, .int .u8 0, .int .u8 0, .int .u8 0, .int .u8 0, .int .u8 0, .int .u8 0, .int .u8 0, .int .u8 0, .int .u8 0, .int .u8 0, .int .u8 0] 25)) := (Ext.refl _).alloc _
            have hY5 := hY4.trans e5
            refine tr_value (v := ?_) (w1 := ?_) (a' := ?_) rfl rfl (by rfl) ?_ ?_ ?_ ?_
            rotate_left 3
            · go_simp; refine ⟨?_, ?_⟩ <;> with_reducible rfl
            · exact hY5
            · simp only [Act.put, List.setIfInBounds_toArray, List.set_cons_zero, List.set_cons_succ]; rfl
            have l4 : w.heap.size ≤ q4.heap.size := Ext.le hY4
            generalize q4.alloc (.cells #[.int .u8 0, .int .u8 0, .int .u8 0, .int .u8 0, .int .u8 0, .int .u8 0, .int .u8 0, .int .u8 0, .int .u8 0, .int .u8 0, .int .u8 0, .int .u8 0, .int .u8 0, .int .u8 0, .int .u8 0, .int .u8 0, .int .u8 0, .int .u8 0, .int .u8 0, .int .u8 0, .int .u8 0, .int .u8 0, .int .u8 0, .int .u8 0, .int .u8 0, .int .u8 0, .int .u8 0, .int .u8 0, .int .u8 0, .int .u8 0, .int .u8 0, .int .u8 0] 25) = q5 at b4 e5 hY5 ⊢
            generalize q4.heap.size = g4 at b4 l4 ⊢
            obtain ⟨wF, hrF, BF, hXF⟩ := over_row (C := CS) b4 (by rw [szS]; rfl) (by rw [szS]; kernel_rfl) oneS
            refine tr_last (w1 := wF) rfl (by rfl) rfl (by kernel_rfl) (run_op_store rfl (by rfl) (by rfl) hrF) ?_
            refine NoPanic.normal ?_
            exact key g4 g13 u10 u14 wF ⟨BF, Exc.ext hY5 hXF l4, l4⟩
          · have b4 := Blk.new q3 25 #[.int .u8 0, .int .u8 0, .int .u8 0, .int .u8 0, .int .u8 0, .int .u8 0, .int .u8 0, .int .u8 0, .int .u8 0, .int .u8 0, .int .u8 0, .int .u8 0, .int .u8 0, .int .u8 0, .int .u8 0, .int .u8 0, .int .u8 0, .int .u8 0, .int .u8 0, .int .u8 0, .int .u8 0, .int .u8 0, .int .u8 0, .int .u8 0, .int .u8 0, .int .u8 0, .int .u8 0, .int .u8 0, .int .u8 0, .int .u8 0, .int .u8 0, .int .u8 0]
            have e4 : Ext q3 (q3.alloc (.cells #[.int .u8 0, .int .u8 0, .int .u8 0, .int .u8 0, .int .u8 0, .int .u8 0, .int .u8 0, .int .u8 0, .int .u8 0, .int .u8 0, .int .u8 0, .int .u8 0, .int .u8 0, .int .u8 0, .int .u8 0, .int .u8 0, .int .u8 0, .int .u8 0, .int .u8 0, .int .u8 0, .int .u8 0, .int .u8 0, .int .u8 0, .int .u8 0, .int .u8 0, .int .u8 0, .int .u8 0, .int .u8 0, .int .u8 0, .int .u8 0, .int .u8 0, .int .u8 0] 25)) := (Ext.refl _).alloc _
            have hY4 := hY3.trans e4
            refine tr_value (v := ?_) (w1 := ?_) (a' := ?_) rfl rfl (by rfl) ?_ ?_ ?_ ?_
            rotate_left 3
            · go_simp; refine ⟨?_, ?_⟩ <;> with_reducible rfl
            · exact hY4
            · simp only [Act.put, List.setIfInBounds_toArray, List.set_cons_zero, List.set_cons_succ]; rfl
            have l4 : w.heap.size ≤ q3.heap.size := Ext.le hY3
            generalize q3.alloc (.cells #[.int .u8 0, .int .u8 0, .int .u8 0, .int .u8 0, .int .u8 0, .int .u8 0, .int .u8 0, .int .u8 0, .int .u8 0, .int .u8 0, .int .u8 0, .int .u8 0, .int .u8 0, .int .u8 0, .int .u8 0, .int .u8 0, .int .u8 0, .int .u8 0, .int .u8 0, .int .u8 0, .int .u8 0, .int .u8 0, .int .u8 0, .int .u8 0, .int .u8 0, .int .u8 0, .int .u8 0, .int .u8 0, .int .u8 0, .int .u8 0, .int .u8 0, .int .u8 0] 25) = q4 at b4 e4 hY4 ⊢
            generalize q3.heap.size = g4 at b4 l4 ⊢
            refine tr_call (args := ?_) rfl Tryd.func17 (by kernel_rfl) rfl (by rfl) rfl rfl ?_ ?_
            rotate_left 1
            · go_simp; rfl
            (with_reducible refine (hof _ hY4 ((hO14.ext e4).re (by simp)) (by omega)).mono ?_)
            rintro e q5 ⟨rfl, e5⟩
            have hY5 := hY4.trans e5
            refine ⟨_, _, rfl, hY5, (by simp only [Act.put, List.setIfInBounds_toArray, List.set_cons_zero, List.set_cons_succ]; rfl), ?_⟩
            obtain ⟨wF, hrF, BF, hXF⟩ := over_row (C := CS) (b4.ext e5) (by rw [szS]; rfl) (by rw [szS]; kernel_rfl) oneS
            refine tr_last (w1 := wF) rfl (by rfl) rfl (by kernel_rfl) (run_op_store rfl (by rfl) (by rfl) hrF) ?_
            refine NoPanic.normal ?_
            exact key g4 g13 u10 u14 wF ⟨BF, Exc.ext hY5 hXF l4, l4⟩
        · have b4 := Blk.new q2 25 #[.int .u8 0, .int .u8 0, .int .u8 0, .int .u8 0, .int .u8 0, .int .u8 0, .int .u8 0, .int .u8 0, .int .u8 0, .int .u8 0, .int .u8 0, .int .u8 0, .int .u8 0, .int .u8 0, .int .u8 0, .int .u8 0, .int .u8 0, .int .u8 0, .int .u8 0, .int .u8 0, .int .u8 0, .int .u8 0, .int .u8 0, .int .u8 0, .int .u8 0, .int .u8 0, .int .u8 0, .int .u8 0, .int .u8 0, .int .u8 0, .int .u8 0, .int .u8 0]
          have e3 : Ext q2 (q2.alloc (.cells #[.int .u8 0, .int .u8 0, .int .u8 0, .int .u8 0, .int .u8 0, .int .u8 0, .int .u8 0, .int .u8 0, .int .u8 0, .int .u8 0, .int .u8 0, .int .u8 0, .int .u8 0, .int .u8 0, .int .u8 0, .int .u8 0, .int .u8 0, .int .u8 0, .int .u8 0, .int .u8 0, .int .u8 0, .int .u8 0, .int .u8 0, .int .u8 0, .int .u8 0, .int .u8 0, .int .u8 0, .int .u8 0, .int .u8 0, .int .u8 0, .int .u8 0, .int .u8 0] 25)) := (Ext.refl _).alloc _
          have hY3 := hY2.trans e3
          refine tr_value (v := ?_) (w1 := ?_) (a' := ?_) rfl rfl (by rfl) ?_ ?_ ?_ ?_
          rotate_left 3
          · go_simp; refine ⟨?_, ?_⟩ <;> with_reducible rfl
          · exact hY3
          · simp only [Act.put, List.setIfInBounds_toArray, List.set_cons_zero, List.set_cons_succ]; rfl
          have l4 : w.heap.size ≤ q2.heap.size := Ext.le hY2
          generalize q2.alloc (.cells #[.int .u8 0, .int .u8 0, .int .u8 0, .int .u8 0, .int .u8 0, .int .u8 0, .int .u8 0, .int .u8 0, .int .u8 0, .int .u8 0, .int .u8 0, .int .u8 0, .int .u8 0, .int .u8 0, .int .u8 0, .int .u8 0, .int .u8 0, .int .u8 0, .int .u8 0, .int .u8 0, .int .u8 0, .int .u8 0, .int .u8 0, .int .u8 0, .int .u8 0, .int .u8 0, .int .u8 0, .int .u8 0, .int .u8 0, .int .u8 0, .int .u8 0, .int .u8 0] 25) = q3 at b4 e3 hY3 ⊢
          generalize q2.heap.size = g4 at b4 l4 ⊢
          refine tr_call (args := ?_) rfl Tryd.func63 (by kernel_rfl) rfl (by rfl) rfl rfl ?_ ?_
          rotate_left 1
          · go_simp; rfl
          (with_reducible refine (tints1 (hO10.ext (e2.trans e3)).buf w.heap.size (Ext.le hY3) (by omega) t.id (b13.ext e3) ht.id).mono ?_)
          rintro e q4 ⟨u14, rfl, hO14, e4⟩
          have hY4 := hY3.trans e4
          refine ⟨_, _, rfl, hY4, (by simp only [Act.put, List.setIfInBounds_toArray, List.set_cons_zero, List.set_cons_succ]; rfl), ?_⟩
          refine tr_call (args := ?_) rfl Tryd.func17 (by kernel_rfl) rfl (by rfl) rfl rfl ?_ ?_
          rotate_left 1
          · go_simp; rfl
          (with_reducible refine (hof _ hY4 (hO14.re (by simp)) (by omega)).mono ?_)
          rintro e q5 ⟨rfl, e5⟩
          have hY5 := hY4.trans e5
          refine ⟨_, _, rfl, hY5, (by simp only [Act.put, List.setIfInBounds_toArray, List.set_cons_zero, List.set_cons_succ]; rfl), ?_⟩
          obtain ⟨wF, hrF, BF, hXF⟩ := over_row (C := CS) (b4.ext (e4.trans e5)) (by rw [szS]; rfl) (by rw [szS]; kernel_rfl) oneS
          refine tr_last (w1 := wF) rfl (by rfl) rfl (by kernel_rfl) (run_op_store rfl (by rfl) (by rfl) hrF) ?_
          refine NoPanic.normal ?_
          exact key g4 g13 u10 u14 wF ⟨BF, Exc.ext hY5 hXF l4, l4⟩
      · have b4 := Blk.new q1 25 #[.int .u8 0, .int .u8 0, .int .u8 0, .int .u8 0, .int .u8 0, .int .u8 0, .int .u8 0, .int .u8 0, .int .u8 0, .int .u8 0, .int .u8 0, .int .u8 0, .int .u8 0, .int .u8 0, .int .u8 0, .int .u8 0, .int .u8 0, .int .u8 0, .int .u8 0, .int .u8 0, .int .u8 0, .int .u8 0, .int .u8 0, .int .u8 0, .int .u8 0, .int .u8 0, .int .u8 0, .int .u8 0, .int .u8 0, .int .u8 0, .int .u8 0, .int .u8 0]
        have e2 : Ext q1 (q1.alloc (.cells #[.int .u8 0, .int .u8 0, .int .u8 0, .int .u8 0, .int .u8 0, .int .u8 0, .int .u8 0, .int .u8 0, .int .u8 0, .int .u8 0, .int .u8 0, .int .u8 0, .int .u8 0, .int .u8 0, .int .u8 0, .int .u8 0, .int .u8 0, .int .u8 0, .int .u8 0, .int .u8 0, .int .u8 0, .int .u8 0, .int .u8 0, .int .u8 0, .int .u8 0, .int .u8 0, .int .u8 0, .int .u8 0, .int .u8 0, .int .u8 0, .int .u8 0, .int .u8 0] 25)) := (Ext.refl _).alloc _
        have hY2 := hY1.trans e2
        refine tr_value (v := ?_) (w1 := ?_) (a' := ?_) rfl rfl (by rfl) ?_ ?_ ?_ ?_
        rotate_left 3
        · go_simp; refine ⟨?_, ?_⟩ <;> with_reducible rfl
        · exact hY2
        · simp only [Act.put, List.setIfInBounds_toArray, List.set_cons_zero, List.set_cons_succ]; rfl
        have l4 : w.heap.size ≤ q1.heap.size := Ext.le hY1
        generalize q1.alloc (.cells #[.int .u8 0, .int .u8 0, .int .u8 0, .int .u8 0, .int .u8 0, .int .u8 0, .int .u8 0, .int .u8 0, .int .u8 0, .int .u8 0, .int .u8 0, .int .u8 0, .int .u8 0, .int .u8 0, .int .u8 0, .int .u8 0, .int .u8 0, .int .u8 0, .int .u8 0, .int .u8 0, .int .u8 0, .int .u8 0, .int .u8 0, .int .u8 0, .int .u8 0, .int .u8 0, .int .u8 0, .int .u8 0, .int .u8 0, .int .u8 0, .int .u8 0, .int .u8 0] 25) = q2 at b4 e2 hY2 ⊢
        generalize q1.heap.size = g4 at b4 l4 ⊢
        have b13 := Blk.new q2 3 #[.int .i64 t.id]
        have e3 : Ext q2 (q2.alloc (.cells #[.int .i64 t.id] 3)) := (Ext.refl _).alloc _
        have hY3 := hY2.trans e3
        refine tr_value (v := ?_) (w1 := ?_) (a' := ?_) rfl rfl (by rfl) ?_ ?_ ?_ ?_
        rotate_left 3
        · go_simp; refine ⟨?_, ?_⟩ <;> with_reducible rfl
        · exact hY3
        · simp only [Act.put, List.setIfInBounds_toArray, List.set_cons_zero, List.set_cons_succ]; rfl
        have l13 : w.heap.size ≤ q2.heap.size := Ext.le hY2
        generalize q2.alloc (.cells #[.int .i64 t.id] 3) = q3 at b13 e3 hY3 ⊢
        generalize q2.heap.size = g13 at b13 l13 ⊢
        refine tr_call (args := ?_) rfl Tryd.func63 (by kernel_rfl) rfl (by rfl) rfl rfl ?_ ?_
        rotate_left 1
        · go_simp; rfl
        (with_reducible refine (tints1 (hO10.ext (e2.trans e3)).buf w.heap.size (Ext.le hY3) (by omega) t.id b13 ht.id).mono ?_)
        rintro e q4 ⟨u14, rfl, hO14, e4⟩
        have hY4 := hY3.trans e4
        refine ⟨_, _, rfl, hY4, (by simp only [Act.put, List.setIfInBounds_toArray, List.set_cons_zero, List.set_cons_succ]; rfl), ?_⟩
        refine tr_call (args := ?_) rfl Tryd.func17 (by kernel_rfl) rfl (by rfl) rfl rfl ?_ ?_
        rotate_left 1
        · go_simp; rfl
        (with_reducible refine (hof _ hY4 (hO14.re (by simp)) (by omega)).mono ?_)
        rintro e q5 ⟨rfl, e5⟩
        have hY5 := hY4.trans e5
        refine ⟨_, _, rfl, hY5, (by simp only [Act.put, List.setIfInBounds_toArray, List.set_cons_zero, List.set_cons_succ]; rfl), ?_⟩
        obtain ⟨wF, hrF, BF, hXF⟩ := over_row (C := CS) (b4.ext (e3.trans (e4.trans e5))) (by rw [szS]; rfl) (by rw [szS]; kernel_rfl) oneS
        refine tr_last (w1 := wF) rfl (by rfl) rfl (by kernel_rfl) (run_op_store rfl (by rfl) (by rfl) hrF) ?_
        refine NoPanic.normal ?_
        exact key g4 g13 u10 u14 wF ⟨BF, Exc.ext hY5 hXF l4, l4⟩
    · have b13 := Blk.new q0 3 #[.int .i64 t.id]
      have e1 : Ext q0 (q0.alloc (.cells #[.int .i64 t.id] 3)) := (Ext.refl _).alloc _
      have hY1 := hY0.trans e1
      refine tr_value (v := ?_) (w1 := ?_) (a' := ?_) rfl rfl (by rfl) ?_ ?_ ?_ ?_
      rotate_left 3
      · go_simp; refine ⟨?_, ?_⟩ <;> with_reducible rfl
      · exact hY1
      · simp only [Act.put, List.setIfInBounds_toArray, List.set_cons_zero, List.set_cons_succ]; rfl
      have l13 : w.heap.size ≤ q0.heap.size := Ext.le hY0
      generalize q0.alloc (.cells #[.int .i64 t.id] 3) = q1 at b13 e1 hY1 ⊢
      generalize q0.heap.size = g13 at b13 l13 ⊢
      refine tr_two ?_ ?_
      · refine tr_call (args := ?_) rfl Tryd.func19 (by kernel_rfl) rfl (by rfl) rfl rfl ?_ ?_
        rotate_left 1
        · go_simp; rfl
        (with_reducible refine (textL (Buf.nil _) (by omega) w.heap.size (Ext.le hY1) t.ten ht.ten).mono ?_)
        rintro e q2 ⟨u10, rfl, hO10, e2⟩
        have hY2 := hY1.trans e2
        refine ⟨_, _, rfl, hY2, (by simp only [Act.put, List.setIfInBounds_toArray, List.set_cons_zero, List.set_cons_succ]; rfl), ?_⟩
        refine tr_two ?_ ?_
        · refine tr_call (args := ?_) rfl Tryd.func63 (by kernel_rfl) rfl (by rfl) rfl rfl ?_ ?_
          rotate_left 1
          · go_simp; rfl
          (with_reducible refine (tints1 hO10.buf w.heap.size (Ext.le hY2) (by omega) t.id (b13.ext e2) ht.id).mono ?_)
          rintro e q3 ⟨u14, rfl, hO14, e3⟩
          have hY3 := hY2.trans e3
          refine ⟨_, _, rfl, hY3, (by simp only [Act.put, List.setIfInBounds_toArray, List.set_cons_zero, List.set_cons_succ]; rfl), ?_⟩
          refine tr_two ?_ ?_
          · refine tr_call (args := ?_) rfl Tryd.func17 (by kernel_rfl) rfl (by rfl) rfl rfl ?_ ?_
            rotate_left 1
            · go_simp; rfl
            (with_reducible refine (hof _ hY3 (hO14.re (by simp)) (by omega)).mono ?_)
            rintro e q4 ⟨rfl, e4⟩
            have hY4 := hY3.trans e4
            refine ⟨_, _, rfl, hY4, (by simp only [Act.put, List.setIfInBounds_toArray, List.set_cons_zero, List.set_cons_succ]; rfl), ?_⟩
            have b4 := Blk.new q4 25 #[.int .u8 0, .int .u8 0, .int .u8 0, .int .u8 0, .int .u8 0, .int .u8 0, .int .u8 0, .int .u8 0, .int .u8 0, .int .u8 0, .int .u8 0, .int .u8 0, .int .u8 0, .int .u8 0, .int .u8 0, .int .u8 0, .int .u8 0, .int .u8 0, .int .u8 0, .int .u8 0, .int .u8 0, .int .u8 0, .int .u8 0, .int .u8 0, .int .u8 0, .int .u8 0, .int .u8 0, .int .u8 0, .int .u8 0, .int .u8 0, .int .u8 0, .int .u8 0]
            have e5 : Ext q4 (q4.alloc (.cells #[.int .u8 0, .int .u8 0, .int .u8 0, .int .u8 0, .int .u8 0, .int .u8 0, .int .u8 0, .int .u8 0, .int .u8 0, .int .u8 0, .int .u8 0, .int .u8 0, .int .u8 0, .int .u8 0, .int .u8 0, .int .u8 0, .int .u8 0, .int .u8 0, .int .u8 0, .int .u8 0, .int .u8 0, .int .u8 0, .int .u8 0, .int .u8 0, .int .u8 0, .int .u8 0, .int .u8 0, .int .u8 0, .int .u8 0, .int .u8 0, .int .u8 0, .int .u8 0] 25)) := (Ext.refl _).alloc _
            have hY5 := hY4.trans e5
            refine tr_value (v := ?_) (w1 := ?_) (a' := ?_) rfl rfl (by rfl) ?_ ?_ ?_ ?_
            rotate_left 3
            · go_simp; refine ⟨?_, ?_⟩ <;> with_reducible rfl
            · exact hY5
            · simp only [Act.put, List.setIfInBounds_toArray, List.set_cons_zero, List.set_cons_succ]; rfl
            have l4 : w.heap.size ≤ q4.heap.size := Ext.le hY4
            generalize q4.alloc (.cells #[.int .u8 0, .int .u8 0, .int .u8 0, .int .u8 0, .int .u8 0, .int .u8 0, .int .u8 0, .int .u8 0, .int .u8 0, .int .u8 0, .int .u8 0, .int .u8 0, .int .u8 0, .int .u8 0, .int .u8 0, .int .u8 0, .int .u8 0, .int .u8 0, .int .u8 0, .int .u8 0, .int .u8 0, .int .u8 0, .int .u8 0, .int .u8 0, .int .u8 0, .int .u8 0, .int .u8 0, .int .u8 0, .int .u8 0, .int .u8 0, .int .u8 0, .int .u8 0] 25) = q5 at b4 e5 hY5 ⊢
            generalize q4.heap.size = g4 at b4 l4 ⊢
            obtain ⟨wF, hrF, BF, hXF⟩ := over_row (C := CS) b4 (by rw [szS]; rfl) (by rw [szS]; kernel_rfl) oneS
            refine tr_last (w1 := wF) rfl (by rfl) rfl (by kernel_rfl) (run_op_store rfl (by rfl) (by rfl) hrF) ?_
            refine NoPanic.normal ?_
            exact key g4 g13 u10 u14 wF ⟨BF, Exc.ext hY5 hXF l4, l4⟩
          · have b4 := Blk.new q3 25 #[.int .u8 0, .int .u8 0, .int .u8 0, .int .u8 0, .int .u8 0, .int .u8 0, .int .u8 0, .int .u8 0, .int .u8 0, .int .u8 0, .int .u8 0, .int .u8 0, .int .u8 0, .int .u8 0, .int .u8 0, .int .u8 0, .int .u8 0, .int .u8 0, .int .u8 0, .int .u8 0, .int .u8 0, .int .u8 0, .int .u8 0, .int .u8 0, .int .u8 0, .int .u8 0, .int .u8 0, .int .u8 0, .int .u8 0, .int .u8 0, .int .u8 0, .int .u8 0]
            have e4 : Ext q3 (q3.alloc (.cells #[.int .u8 0, .int .u8 0, .int .u8 0, .int .u8 0, .int .u8 0, .int .u8 0, .int .u8 0, .int .u8 0, .int .u8 0, .int .u8 0, .int .u8 0, .int .u8 0, .int .u8 0, .int .u8 0, .int .u8 0, .int .u8 0, .int .u8 0, .int .u8 0, .int .u8 0, .int .u8 0, .int .u8 0, .int .u8 0, .int .u8 0, .int .u8 0, .int .u8 0, .int .u8 0, .int .u8 0, .int .u8 0, .int .u8 0, .int .u8 0, .int .u8 0, .int .u8 0] 25)) := (Ext.refl _).alloc _
            have hY4 := hY3.trans e4
            refine tr_value (v := ?_) (w1 := ?_) (a' := ?_) rfl rfl (by rfl) ?_ ?_ ?_ ?_
            rotate_left 3
            · go_simp; refine ⟨?_, ?_⟩ <;> with_reducible rfl
            · exact hY4
            · simp only [Act.put, List.setIfInBounds_toArray, List.set_cons_zero, List.set_cons_succ]; rfl
            have l4 : w.heap.size ≤ q3.heap.size := Ext.le hY3
            generalize q3.alloc (.cells #[.int .u8 0, .int .u8 0, .int .u8 0, .int .u8 0, .int .u8 0, .int .u8 0, .int .u8 0, .int .u8 0, .int .u8 0, .int .u8 0, .int .u8 0, .int .u8 0, .int .u8 0, .int .u8 0, .int .u8 0, .int .u8 0, .int .u8 0, .int .u8 0, .int .u8 0, .int .u8 0, .int .u8 0, .int .u8 0, .int .u8 0, .int .u8 0, .int .u8 0, .int .u8 0, .int .u8 0, .int .u8 0, .int .u8 0, .int .u8 0, .int .u8 0, .int .u8 0] 25) = q4 at b4 e4 hY4 ⊢
            generalize q3.heap.size = g4 at b4 l4 ⊢
            refine tr_call (args := ?_) rfl Tryd.func17 (by kernel_rfl) rfl (by rfl) rfl rfl ?_ ?_
            rotate_left 1
            · go_simp; rfl
            (with_reducible refine (hof _ hY4 ((hO14.ext e4).re (by simp)) (by omega)).mono ?_)
            rintro e q5 ⟨rfl, e5⟩
            have hY5 := hY4.trans e5
            refine ⟨_, _, rfl, hY5, (by simp only [Act.put, List.setIfInBounds_toArray, List.set_cons_zero, List.set_cons_succ]; rfl), ?_⟩
            obtain ⟨wF, hrF, BF, hXF⟩ := over_row (C := CS) (b4.ext e5) (by rw [szS]; rfl) (by rw [szS]; kernel_rfl) oneS
            refine tr_last (w1 := wF) rfl (by rfl) rfl (by kernel_rfl) (run_op_store rfl (by rfl) (by rfl) hrF) ?_
            refine NoPanic.normal ?_
            exact key g4 g13 u10 u14 wF ⟨BF, Exc.ext hY5 hXF l4, l4⟩
        · have b4 := Blk.new q2 25 #[.int .u8 0, .int .u8 0, .int .u8 0, .int .u8 0, .int .u8 0, .int .u8 0, .int .u8 0, .int .u8 0, .int .u8 0, .int .u8 0, .int .u8 0, .int .u8 0, .int .u8 0, .int .u8 0, .int .u8 0, .int .u8 0, .int .u8 0, .int .u8 0, .int .u8 0, .int .u8 0, .int .u8 0, .int .u8 0, .int .u8 0, .int .u8 0, .int .u8 0, .int .u8 0, .int .u8 0, .int .u8 0, .int .u8 0, .int .u8 0, .int .u8 0, .int .u8 0]
          have e3 : Ext q2 (q2.alloc (.cells #[.int .u8 0, .int .u8 0, .int .u8 0, .int .u8 0, .int .u8 0, .int .u8 0, .int .u8 0, .int .u8 0, .int .u8 0, .int .u8 0, .int .u8 0, .int .u8 0, .int .u8 0, .int .u8 0, .int .u8 0, .int .u8 0, .int .u8 0, .int .u8 0, .int .u8 0, .int .u8 0, .int .u8 0, .int .u8 0, .int .u8 0, .int .u8 0, .int .u8 0, .int .u8 0, .int .u8 0, .int .u8 0, .int .u8 0, .int .u8 0, .int .u8 0, .int .u8 0] 25)) := (Ext.refl _).alloc _
          have hY3 := hY2.trans e3
          refine tr_value (v := ?_) (w1 := ?_) (a' := ?_) rfl rfl (by rfl) ?_ ?_ ?_ ?_
          rotate_left 3
          · go_simp; refine ⟨?_, ?_⟩ <;> with_reducible rfl
          · exact hY3
          · simp only [Act.put, List.setIfInBounds_toArray, List.set_cons_zero, List.set_cons_succ]; rfl
          have l4 : w.heap.size ≤ q2.heap.size := Ext.le hY2
          generalize q2.alloc (.cells #[.int .u8 0, .int .u8 0, .int .u8 0, .int .u8 0, .int .u8 0, .int .u8 0, .int .u8 0, .int .u8 0, .int .u8 0, .int .u8 0, .int .u8 0, .int .u8 0, .int .u8 0, .int .u8 0, .int .u8 0, .int .u8 0, .int .u8 0, .int .u8 0, .int .u8 0, .int .u8 0, .int .u8 0, .int .u8 0, .int .u8 0, .int .u8 0, .int .u8 0, .int .u8 0, .int .u8 0, .int .u8 0, .int .u8 0, .int .u8 0, .int .u8 0, .int .u8 0] 25) = q3 at b4 e3 hY3 ⊢
          generalize q2.heap.size = g4 at b4 l4 ⊢
          refine tr_call (args := ?_) rfl Tryd.func63 (by kernel_rfl) rfl (by rfl) rfl rfl ?_ ?_
          rotate_left 1
          · go_simp; rfl
          (with_reducible refine (tints1 (hO10.ext e3).buf w.heap.size (Ext.le hY3) (by omega) t.id (b13.ext (e2.trans e3)) ht.id).mono ?_)
          rintro e q4 ⟨u14, rfl, hO14, e4⟩
          have hY4 := hY3.trans e4
          refine ⟨_, _, rfl, hY4, (by simp only [Act.put, List.setIfInBounds_toArray, List.set_cons_zero, List.set_cons_succ]; rfl), ?_⟩
          refine tr_call (args := ?_) rfl Tryd.func17 (by kernel_rfl) rfl (by rfl) rfl rfl ?_ ?_
          rotate_left 1
          · go_simp; rfl
          (with_reducible refine (hof _ hY4 (hO14.re (by simp)) (by omega)).mono ?_)
          rintro e q5 ⟨rfl, e5⟩
          have hY5 := hY4.trans e5
          refine ⟨_, _, rfl, hY5, (by simp only [Act.put, List.setIfInBounds_toArray, List.set_cons_zero, List.set_cons_succ]; rfl), ?_⟩
          obtain ⟨wF, hrF, BF, hXF⟩ := over_row (C := CS) (b4.ext (e4.trans e5)) (by rw [szS]; rfl) (by rw [szS]; kernel_rfl) oneS
          refine tr_last (w1 := wF) rfl (by rfl) rfl (by kernel_rfl) (run_op_store rfl (by rfl) (by rfl) hrF) ?_
          refine NoPanic.normal ?_
          exact key g4 g13 u10 u14 wF ⟨BF, Exc.ext hY5 hXF l4, l4⟩
      · have b4 := Blk.new q1 25 #[.int .u8 0, .int .u8 0, .int .u8 0, .int .u8 0, .int .u8 0, .int .u8 0, .int .u8 0, .int .u8 0, .int .u8 0, .int .u8 0, .int .u8 0, .int .u8 0, .int .u8 0, .int .u8 0, .int .u8 0, .int .u8 0, .int .u8 0, .int .u8 0, .int .u8 0, .int .u8 0, .int .u8 0, .int .u8 0, .int .u8 0, .int .u8 0, .int .u8 0, .int .u8 0, .int .u8 0, .int .u8 0, .int .u8 0, .int .u8 0, .int .u8 0, .int .u8 0]
        have e2 : Ext q1 (q1.alloc (.cells #[.int .u8 0, .int .u8 0, .int .u8 0, .int .u8 0, .int .u8 0, .int .u8 0, .int .u8 0, .int .u8 0, .int .u8 0, .int .u8 0, .int .u8 0, .int .u8 0, .int .u8 0, .int .u8 0, .int .u8 0, .int .u8 0, .int .u8 0, .int .u8 0, .int .u8 0, .int .u8 0, .int .u8 0, .int .u8 0, .int .u8 0, .int .u8 0, .int .u8 0, .int .u8 0, .int .u8 0, .int .u8 0, .int .u8 0, .int .u8 0, .int .u8 0, .int .u8 0] 25)) := (Ext.refl _).alloc _
        have hY2 := hY1.trans e2
        refine tr_value (v := ?_) (w1 := ?_) (a' := ?_) rfl rfl (by rfl) ?_ ?_ ?_ ?_
        rotate_left 3
        · go_simp; refine ⟨?_, ?_⟩ <;> with_reducible rfl
        · exact hY2
        · simp only [Act.put, List.setIfInBounds_toArray, List.set_cons_zero, List.set_cons_succ]; rfl
        have l4 : w.heap.size ≤ q1.heap.size := Ext.le hY1
        generalize q1.alloc (.cells #[.int .u8 0, .int .u8 0, .int .u8 0, .int .u8 0, .int .u8 0, .int .u8 0, .int .u8 0, .int .u8 0, .int .u8 0, .int .u8 0, .int .u8 0, .int .u8 0, .int .u8 0, .int .u8 0, .int .u8 0, .int .u8 0, .int .u8 0, .int .u8 0, .int .u8 0, .int .u8 0, .int .u8 0, .int .u8 0, .int .u8 0, .int .u8 0, .int .u8 0, .int .u8 0, .int .u8 0, .int .u8 0, .int .u8 0, .int .u8 0, .int .u8 0, .int .u8 0] 25) = q2 at b4 e2 hY2 ⊢
        generalize q1.heap.size = g4 at b4 l4 ⊢
        refine tr_call (args := ?_) rfl Tryd.func19 (by kernel_rfl) rfl (by rfl) rfl rfl ?_ ?_
        rotate_left 1
        · go_simp; rfl
        (with_reducible refine (textL (Buf.nil _) (by omega) w.heap.size (Ext.le hY2) t.ten ht.ten).mono ?_)
        rintro e q3 ⟨u10, rfl, hO10, e3⟩
        have hY3 := hY2.trans e3
        refine ⟨_, _, rfl, hY3, (by simp only [Act.put, List.setIfInBounds_toArray, List.set_cons_zero, List.set_cons_succ]; rfl), ?_⟩
        refine tr_call (args := ?_) rfl Tryd.func63 (by kernel_rfl) rfl (by rfl) rfl rfl ?_ ?_
        rotate_left 1
        · go_simp; rfl
        (with_reducible refine (tints1 hO10.buf w.heap.size (Ext.le hY3) (by omega) t.id (b13.ext (e2.trans e3)) ht.id).mono ?_)
        rintro e q4 ⟨u14, rfl, hO14, e4⟩
        have hY4 := hY3.trans e4
        refine ⟨_, _, rfl, hY4, (by simp only [Act.put, List.setIfInBounds_toArray, List.set_cons_zero, List.set_cons_succ]; rfl), ?_⟩
        refine tr_call (args := ?_) rfl Tryd.func17 (by kernel_rfl) rfl (by rfl) rfl rfl ?_ ?_
        rotate_left 1
        · go_simp; rfl
        (with_reducible refine (hof _ hY4 (hO14.re (by simp)) (by omega)).mono ?_)
        rintro e q5 ⟨rfl, e5⟩
        have hY5 := hY4.trans e5
        refine ⟨_, _, rfl, hY5, (by simp only [Act.put, List.setIfInBounds_toArray, List.set_cons_zero, List.set_cons_succ]; rfl), ?_⟩
        obtain ⟨wF, hrF, BF, hXF⟩ := over_row (C := CS) (b4.ext (e3.trans (e4.trans e5))) (by rw [szS]; rfl) (by rw [szS]; kernel_rfl) oneS
        refine tr_last (w1 := wF) rfl (by rfl) rfl (by kernel_rfl) (run_op_store rfl (by rfl) (by rfl) hrF) ?_
        refine NoPanic.normal ?_
        exact key g4 g13 u10 u14 wF ⟨BF, Exc.ext hY5 hXF l4, l4⟩
    · have b4 := Blk.new q0 25 #[.int .u8 0, .int .u8 0, .int .u8 0, .int .u8 0, .int .u8 0, .int .u8 0, .int .u8 0, .int .u8 0, .int .u8 0, .int .u8 0, .int .u8 0, .int .u8 0, .int .u8 0, .int .u8 0, .int .u8 0, .int .u8 0, .int .u8 0, .int .u8 0, .int .u8 0, .int .u8 0, .int .u8 0, .int .u8 0, .int .u8 0, .int .u8 0, .int .u8 0, .int .u8 0, .int .u8 0, .int .u8 0, .int .u8 0, .int .u8 0, .int .u8 0, .int .u8 0]
      have e1 : Ext q0 (q0.alloc (.cells #[.int .u8 0, .int .u8 0, .int .u8 0, .int .u8 0, .int .u8 0, .int .u8 0, .int .u8 0, .int .u8 0, .int .u8 0, .int .u8 0, .int .u8 0, .int .u8 0, .int .u8 0, .int .u8 0, .int .u8 0, .int .u8 0, .int .u8 0, .int .u8 0, .int .u8 0, .int .u8 0, .int .u8 0, .int .u8 0, .int .u8 0, .int .u8 0, .int .u8 0, .int .u8 0, .int .u8 0, .int .u8 0, .int .u8 0, .int .u8 0, .int .u8 0, .int .u8 0] 25)) := (Ext.refl _).alloc _
      have hY1 := hY0.trans e1
      refine tr_value (v := ?_) (w1 := ?_) (a' := ?_) rfl rfl (by rfl) ?_ ?_ ?_ ?_
      rotate_left 3
      · go_simp; refine ⟨?_, ?_⟩ <;> with_reducible rfl
      · exact hY1
      · simp only [Act.put, List.setIfInBounds_toArray, List.set_cons_zero, List.set_cons_succ]; rfl
      have l4 : w.heap.size ≤ q0.heap.size := Ext.le hY0
      generalize q0.alloc (.cells #[.int .u8 0, .int .u8 0, .int .u8 0, .int .u8 0, .int .u8 0, .int .u8 0, .int .u8 0, .int .u8 0, .int .u8 0, .int .u8 0, .int .u8 0, .int .u8 0, .int .u8 0, .int .u8 0, .int .u8 0, .int .u8 0, .int .u8 0, .int .u8 0, .int .u8 0, .int .u8 0, .int .u8 0, .int .u8 0, .int .u8 0, .int .u8 0, .int .u8 0, .int .u8 0, .int .u8 0, .int .u8 0, .int .u8 0, .int .u8 0, .int .u8 0, .int .u8 0] 25) = q1 at b4 e1 hY1 ⊢
      generalize q0.heap.size = g4 at b4 l4 ⊢
      refine tr_two ?_ ?_
      · refine tr_call (args := ?_) rfl Tryd.func19 (by kernel_rfl) rfl (by rfl) rfl rfl ?_ ?_
        rotate_left 1
        · go_simp; rfl
        (with_reducible refine (textL (Buf.nil _) (by omega) w.heap.size (Ext.le hY1) t.ten ht.ten).mono ?_)
        rintro e q2 ⟨u10, rfl, hO10, e2⟩
        have hY2 := hY1.trans e2
        refine ⟨_, _, rfl, hY2, (by simp only [Act.put, List.setIfInBounds_toArray, List.set_cons_zero, List.set_cons_succ]; rfl), ?_⟩
        have b13 := Blk.new q2 3 #[.int .i64 t.id]
        have e3 : Ext q2 (q2.alloc (.cells #[.int .i64 t.id] 3)) := (Ext.refl _).alloc _
        have hY3 := hY2.trans e3
        refine tr_value (v := ?_) (w1 := ?_) (a' := ?_) rfl rfl (by rfl) ?_ ?_ ?_ ?_
        rotate_left 3
        · go_simp; refine ⟨?_, ?_⟩ <;> with_reducible rfl
        · exact hY3
        · simp only [Act.put, List.setIfInBounds_toArray, List.set_cons_zero, List.set_cons_succ]; rfl
        have l13 : w.heap.size ≤ q2.heap.size := Ext.le hY2
        generalize q2.alloc (.cells #[.int .i64 t.id] 3) = q3 at b13 e3 hY3 ⊢
        generalize q2.heap.size = g13 at b13 l13 ⊢
        refine tr_call (args := ?_) rfl Tryd.func63 (by kernel_rfl) rfl (by rfl) rfl rfl ?_ ?_
        rotate_left 1
        · go_simp; rfl
        (with_reducible refine (tints1 (hO10.ext e3).buf w.heap.size (Ext.le hY3) (by omega) t.id b13 ht.id).mono ?_)
        rintro e q4 ⟨u14, rfl, hO14, e4⟩
        have hY4 := hY3.trans e4
        refine ⟨_, _, rfl, hY4, (by simp only [Act.put, List.setIfInBounds_toArray, List.set_cons_zero, List.set_cons_succ]; rfl), ?_⟩
        refine tr_call (args := ?_) rfl Tryd.func17 (by kernel_rfl) rfl (by rfl) rfl rfl ?_ ?_
        rotate_left 1
        · go_simp; rfl
        (with_reducible refine (hof _ hY4 (hO14.re (by simp)) (by omega)).mono ?_)
        rintro e q5 ⟨rfl, e5⟩
        have hY5 := hY4.trans e5
        refine ⟨_, _, rfl, hY5, (by simp only [Act.put, List.setIfInBounds_toArray, List.set_cons_zero, List.set_cons_succ]; rfl), ?_⟩
        obtain ⟨wF, hrF, BF, hXF⟩ := over_row (C := CS) (b4.ext (e2.trans (e3.trans (e4.trans e5)))) (by rw [szS]; rfl) (by rw [szS]; kernel_rfl) oneS
        refine tr_last (w1 := wF) rfl (by rfl) rfl (by kernel_rfl) (run_op_store rfl (by rfl) (by rfl) hrF) ?_
        refine NoPanic.normal ?_
        exact key g4 g13 u10 u14 wF ⟨BF, Exc.ext hY5 hXF l4, l4⟩
      · have b13 := Blk.new q1 3 #[.int .i64 t.id]
        have e2 : Ext q1 (q1.alloc (.cells #[.int .i64 t.id] 3)) := (Ext.refl _).alloc _
        have hY2 := hY1.trans e2
        refine tr_value (v := ?_) (w1 := ?_) (a' := ?_) rfl rfl (by rfl) ?_ ?_ ?_ ?_
        rotate_left 3
        · go_simp; refine ⟨?_, ?_⟩ <;> with_reducible rfl
        · exact hY2
        · simp only [Act.put, List.setIfInBounds_toArray, List.set_cons_zero, List.set_cons_succ]; rfl
        have l13 : w.heap.size ≤ q1.heap.size := Ext.le hY1
        generalize q1.alloc (.cells #[.int .i64 t.id] 3) = q2 at b13 e2 hY2 ⊢
        generalize q1.heap.size = g13 at b13 l13 ⊢
        refine tr_call (args := ?_) rfl Tryd.func19 (by kernel_rfl) rfl (by rfl) rfl rfl ?_ ?_
        rotate_left 1
        · go_simp; rfl
        (with_reducible refine (textL (Buf.nil _) (by omega) w.heap.size (Ext.le hY2) t.ten ht.ten).mono ?_)
        rintro e q3 ⟨u10, rfl, hO10, e3⟩
        have hY3 := hY2.trans e3
        refine ⟨_, _, rfl, hY3, (by simp only [Act.put, List.setIfInBounds_toArray, List.set_cons_zero, List.set_cons_succ]; rfl), ?_⟩
        refine tr_call (args := ?_) rfl Tryd.func63 (by kernel_rfl) rfl (by rfl) rfl rfl ?_ ?_
        rotate_left 1
        · go_simp; rfl
        (with_reducible refine (tints1 hO10.buf w.heap.size (Ext.le hY3) (by omega) t.id (b13.ext e3) ht.id).mono ?_)
        rintro e q4 ⟨u14, rfl, hO14, e4⟩
        have hY4 := hY3.trans e4
        refine ⟨_, _, rfl, hY4, (by simp only [Act.put, List.setIfInBounds_toArray, List.set_cons_zero, List.set_cons_succ]; rfl), ?_⟩
        refine tr_call (args := ?_) rfl Tryd.func17 (by kernel_rfl) rfl (by rfl) rfl rfl ?_ ?_
        rotate_left 1
        · go_simp; rfl
        (with_reducible refine (hof _ hY4 (hO14.re (by simp)) (by omega)).mono ?_)
        rintro e q5 ⟨rfl, e5⟩
        have hY5 := hY4.trans e5
        refine ⟨_, _, rfl, hY5, (by simp only [Act.put, List.setIfInBounds_toArray, List.set_cons_zero, List.set_cons_succ]; rfl), ?_⟩
        obtain ⟨wF, hrF, BF, hXF⟩ := over_row (C := CS) (b4.ext (e2.trans (e3.trans (e4.trans e5)))) (by rw [szS]; rfl) (by rw [szS]; kernel_rfl) oneS
        refine tr_last (w1 := wF) rfl (by rfl) rfl (by kernel_rfl) (run_op_store rfl (by rfl) (by rfl) hrF) ?_
        refine NoPanic.normal ?_
        exact key g4 g13 u10 u14 wF ⟨BF, Exc.ext hY5 hXF l4, l4⟩
  · intro sb g13 u10 u14 w1 hkey
    obtain ⟨BS, hE1, hsb⟩ := hkey
    have x2 := xr2 w1 hE1
    have hSt1 : ChSt w0 w w1 rb tb sb root t (.slice A n c) 0 := ⟨hC.trans hE1.cle, Br.ext hE1, by rw [HT.out]; exact Bt.ext hE1, by show Blk w1 sb 25 (macA (macB root (txtB t.ten ++ num8 t.id))); rw [HCS.out]; exact BS, hsb⟩
    have hJ1 : J 0 w1 := hJ _ _ _ hJ0 hE1
    have hs1 : w.heap.size ≤ w1.heap.size := hE1.le
    clear hof xr0 xr1 xr2 hKk hIk BS oneS szS HCS Br Bt HT hKw hIw hY0 hJ0
    go_upto_region 1 with fail
    go_upto_region 2 with fail
    go_loopw [19] (fun i wr => ∃ k : Nat, k ≤ n ∧ i = .int .i64 k ∧ ChSt w0 w wr rb tb sb root t (.slice A n c) k ∧ J k wr ∧ w.heap.size ≤ wr.heap.size) (fun i _ => n - (intOf i).toNat)
    case atStart => exact ⟨0, by omega, rfl, hSt1, hJ1, hs1⟩
    case round =>
      clear hSt1 hJ1 hE1 x2
      obtain ⟨k, hkn, rfl, hSt, hJk, hBe⟩ := hrel
      by_cases hlt : k < n
      · obtain ⟨b, o, rfl⟩ := el_addr hS k hlt
        have hl := HL.out
        obtain ⟨x, hx⟩ : ∃ x, t.gs[k]? = some x := ⟨_, List.getElem?_eq_getElem (by omega)⟩
        have hxm := List.mem_of_getElem? hx
        have hgf := ht.g x hxm
        have hch : chAt root t (k + 1) = macB (chAt root t k) (gB x) := by
          rw [chAt_succ root t k (by omega)]
          congr 2
          exact Option.some.inj ((List.getElem?_eq_getElem _).symm.trans hx)
        have ldg := el_load gr_cells (hS.mono hSt.cle) k x hx 35 _ Tryd.underlying35 rfl (by kernel_rfl)
        simp only [show rdGr.sz = 4 from rfl] at ldg
        obtain ⟨GX, hGX⟩ : ∃ G, grA x = G := ⟨_, rfl⟩
        have szG : GX.size = 4 := by rw [← hGX]; rfl
        have oneG : GX.all (·.oneCell') = true := by rw [← hGX]; simp [grA, Value.oneCell']
        rw [hGX] at ldg
        have HGX := Lib.hid hGX
        clear hGX hx hxm hl
        go_upto_region 3 with fail
        refine wp_region_lit ?_
        iterate 1 (first | (refine pl_off (a' := ?_) rfl (by rfl) ?_ ?_; rotate_left 1; (· simp only [Act.put, List.setIfInBounds_toArray, List.set_cons_zero, List.set_cons_succ]; rfl)) | (refine pl_y (v := ?_) (a' := ?_) rfl (by rfl) ?_ ?_ ?_; rotate_left 2; (· go_simp; with_reducible rfl); (· simp only [Act.put, List.setIfInBounds_toArray, List.set_cons_zero, List.set_cons_succ]; rfl)))
        refine pl_y (v := ?_) (a' := ?_) rfl (by rfl) ?_ ?_ ?_
        rotate_left 2
        · (refine (run_op_load rfl ?_ (ldg)).trans ?_; (· rfl); (· with_reducible rfl))
        · simp only [Act.put, List.setIfInBounds_toArray, List.set_cons_zero, List.set_cons_succ]; rfl
        obtain ⟨w3, hst3, BG3, hE3⟩ := box_row wr 35 #[.int .i64 0, .string ⟨#[]⟩, .bool false, .int .i64 0] GX (by rw [szG]; rfl) (by rw [szG]; kernel_rfl) oneG
        refine pl_v (v := ?_) (w1 := ?_) (a' := ?_) rfl (by rfl) ?_ ?_ ?_
        rotate_left 3
        · go_simp; refine ⟨?_, ?_⟩ <;> with_reducible rfl
        · simp only [Act.put, List.setIfInBounds_toArray, List.set_cons_zero, List.set_cons_succ]; rfl
        have hgs : w.heap.size ≤ wr.heap.size := hBe
        obtain ⟨gb, hgb⟩ : ∃ z, wr.heap.size = z := ⟨_, rfl⟩
        rw [hgb] at hst3 BG3 hgs ⊢
        refine pl_store (by rfl) rfl (run_op_store rfl ?_ ?_ hst3) ?_
        · rfl
        · rfl
        refine wpList_nil ?_
        have hSt3 := hSt.ext hE3
        have hE3b : Below w.heap.size wr w3 := Below.mono hE3 hBe
        obtain ⟨fn, tmps, assign, body, hy, hR⟩ := hY k (by omega) w3 (hJ k wr w3 hJk hE3b)
        have lds := load_whole hSt3.bs 25 _ Tryd.underlying25 rfl (by kernel_rfl)
        clear ldg hst3
        go_upto_region 4 with fail
        refine (wpIn_wide (n := 0)).1 (wpIn_region_lit ?_)
        refine pi_y (v := ?_) (a' := ?_) (fun _ => trivial) rfl rfl rfl ?_ ?_ ?_
        rotate_left 2
        · go_simp; with_reducible rfl
        · simp only [Act.put, List.setIfInBounds_toArray, List.set_cons_zero, List.set_cons_succ]; rfl
        refine pi_y (v := ?_) (a' := ?_) (fun _ => trivial) rfl rfl rfl ?_ ?_ ?_
        rotate_left 2
        · (refine (run_op_load rfl ?_ (lds)).trans ?_; (· rfl); (· with_reducible rfl))
        · simp only [Act.put, List.setIfInBounds_toArray, List.set_cons_zero, List.set_cons_succ]; rfl
        refine pi_round (l := l) (f := fn) (tmps := tmps) (assign := assign) (body := body) (fun _ => trivial) rfl rfl rfl rfl ?_ (hR.mono ?_)
        · go_simp
        rintro e w4 ⟨rfl, hJ4, hk4⟩
        refine ⟨_, _, rfl, (by simp only [Act.put, List.setIfInBounds_toArray, List.set_cons_zero, List.set_cons_succ]; rfl), ?_⟩
        refine pi_y (v := ?_) (a' := ?_) (fun _ => trivial) rfl rfl rfl ?_ ?_ ?_
        rotate_left 2
        · go_simp; with_reducible rfl
        · simp only [Act.put, List.setIfInBounds_toArray, List.set_cons_zero, List.set_cons_succ]; rfl
        refine wpListIn_nil ?_
        have hSt4 := hSt3.keep hk4 h0 hB1 hB2 hBw
        have BG4 : Blk w4 gb 35 GX := hk4.blk BG3 (by show gb ≠ B; omega)
        have hs4 : w.heap.size ≤ w4.heap.size := by have := hk4.size; have := hE3b.size; omega
        clear hY hJk hSt hSt3 BG3 hk4 hy hR lds
        have lds := fun (w' : World) (h : Ext w4 w') => load_whole (hSt4.bs.ext h) 25 _ Tryd.underlying25 rfl (by kernel_rfl)
        have ldx := fun (w' : World) (h : Ext w4 w') => load_whole (BG4.ext h) 35 _ Tryd.underlying35 rfl (by rw [szG]; kernel_rfl)
        have hby := fun (w' : World) (h : Ext w4 w') => bytesOfL (Buf.nil w') w'.heap.size (Nat.le_refl _) (by omega) x hgf
        rw [HGX.out] at hby
        have hcn := fun (w' : World) (h : Ext w4 w') {B' N : Nat} {v : Value} (hb : OwnN B' N w' v (gB x)) (hN : N ≤ 1000000000) => macChain_own w' (chAt root t k) (chAt_len root t k) hb (gB_pos x) hN (hK.cle (hSt4.cle.trans h.cle)) (hI.cle (hSt4.cle.trans h.cle))
        rw [← hch] at hcn
        obtain ⟨CN, hCN⟩ : ∃ C, macA (chAt root t (k + 1)) = C := ⟨_, rfl⟩
        have szN : CN.size = 32 := by rw [← hCN]; exact macA_size _
        have oneN : CN.all (·.oneCell') = true := by rw [← hCN]; exact macA_one _
        rw [hCN] at hcn
        have HCN := Lib.hid hCN
        obtain ⟨CK, hCK⟩ : ∃ C, macA (chAt root t k) = C := ⟨_, rfl⟩
        rw [hCK] at lds hcn
        have szK : CK.size = 32 := by rw [← hCK]; exact macA_size _
        have BS4 : Blk w4 sb 25 CK := by rw [← hCK]; exact hSt4.bs
        clear hCN hch hCK
        go_upto_region 5 with fail
        refine wp_region_noPanic ?_
        refine tr_start (.y 0 (.y 1 (.e 2 (.e 3 (.e 4 .nil))))) (fun w' => Ext w4 w') (by kernel_rfl) (by as_aux_lemma => kernel_rfl) (fun _ _ _ _ _ h => h) ((Ext.refl _).drew) ?_
        refine tr_y (v := ?_) (a' := ?_) rfl rfl (by rfl) (fun w' hw' => ?_) ?_ ?_
        rotate_left 2
        · (refine (run_op_load rfl ?_ (lds w' hw')).trans ?_; (· rfl); (· with_reducible rfl))
        · simp only [Act.put, List.setIfInBounds_toArray, List.set_cons_zero, List.set_cons_succ]; rfl
        refine tr_y (v := ?_) (a' := ?_) rfl rfl (by rfl) (fun w' hw' => ?_) ?_ ?_
        rotate_left 2
        · (refine (run_op_load rfl ?_ (ldx w' hw')).trans ?_; (· rfl); (· with_reducible rfl))
        · simp only [Act.put, List.setIfInBounds_toArray, List.set_cons_zero, List.set_cons_succ]; rfl
        have e5 : Ext w4 w4.drew := (Ext.refl _).drew
        generalize w4.drew = w5 at e5 ⊢
        refine tr_call (args := ?_) rfl Tryd.func61 (by kernel_rfl) rfl (by rfl) rfl rfl ?_ ?_
        rotate_left 1
        · go_simp; rfl
        (with_reducible refine (hby w5 e5).mono ?_)
        rintro e w6 ⟨u6, rfl, hO6, hE6⟩
        refine ⟨_, _, rfl, e5.trans hE6, (by simp only [Act.put, List.setIfInBounds_toArray, List.set_cons_zero, List.set_cons_succ]; rfl), ?_⟩
        refine tr_call (args := ?_) rfl Tryd.func21 (by kernel_rfl) rfl (by rfl) rfl rfl ?_ ?_
        rotate_left 1
        · go_simp; rfl
        (with_reducible refine (hcn w6 (e5.trans hE6) (hO6.re (by simp)) (by omega)).mono ?_)
        rintro e w7 ⟨rfl, hE7⟩
        refine ⟨_, _, rfl, e5.trans (hE6.trans hE7), (by simp only [Act.put, List.setIfInBounds_toArray, List.set_cons_zero, List.set_cons_succ]; rfl), ?_⟩
        obtain ⟨w8, hst8, BS8, hX8⟩ := over_row (C := CN) (BS4.ext (e5.trans (hE6.trans hE7))) (by rw [szN, szK]) (by rw [szN]; kernel_rfl) oneN
        refine tr_last (w1 := w8) rfl (by rfl) rfl (by kernel_rfl) (run_op_store rfl (by rfl) (by rfl) hst8) ?_
        refine NoPanic.normal ?_
        have e7 : Ext w4 w7 := e5.trans (hE6.trans hE7)
        have hX8 : Exc sb (sb + 1) w7 w8 := hX8
        have hne1 : rb ≠ sb := by
          intro h; subst h
          exact Blk.ne_ hSt4.br hSt4.bs (by decide) rfl
        have hne2 : tb ≠ sb := by
          intro h; subst h
          exact Blk.ne_ hSt4.bt hSt4.bs (by decide) rfl
        have hold : ∀ b, b < w0.heap.size → b ≠ sb := fun b hb => by have := hSt4.ps; omega
        have hk8 : KeepP (· ≠ sb) w4 w8 := (KeepP.ext e7).trans (KeepP.exc hX8 (fun b hb => by have : b ≠ sb := hb; omega))
        have hSt8 : ChSt w0 w w8 rb tb sb root t (.slice (some ⟨b, o, none⟩) n c) (k + 1) :=
          ⟨hk8.cle hSt4.cle hold, hk8.blk hSt4.br hne1, hk8.blk hSt4.bt hne2, by rw [HCN.out]; exact BS8, hSt4.ps⟩
        have hB8 : Below w.heap.size w4 w8 := (Below.mono e7 hs4).trans ⟨hX8.os, hX8.tape, hX8.output, hX8.size, fun j hj => hX8.block j (by have := e7.le; omega) (.inl (by have := hSt4.ps; omega))⟩
        have hJ8 : J (k + 1) w8 := hJ _ _ _ hJ4 hB8
        clear lds ldx hby hcn hX8 hst8 BS8 BS4 hSt4 BG4
        go_wp2_with fail
        go_roundw
        case rel => exact ⟨k + 1, by omega, by go_num, hSt8, hJ8, Nat.le_trans hs4 hB8.size⟩
        case measure => simp [intOf]; omega
      · obtain rfl : k = n := by omega
        obtain ⟨fn, tmps, assign, body, hy, hR⟩ := hY k (by omega) wr hJk
        have lds := load_whole hSt.bs 25 _ Tryd.underlying25 rfl (by kernel_rfl)
        go_upto_region 7 with fail
        refine (wpIn_wide (n := 0)).1 (wpIn_region_lit ?_)
        refine pi_y (v := ?_) (a' := ?_) (fun _ => trivial) rfl rfl rfl ?_ ?_ ?_
        rotate_left 2
        · go_simp; with_reducible rfl
        · simp only [Act.put, List.setIfInBounds_toArray, List.set_cons_zero, List.set_cons_succ]; rfl
        refine pi_y (v := ?_) (a' := ?_) (fun _ => trivial) rfl rfl rfl ?_ ?_ ?_
        rotate_left 2
        · (refine (run_op_load rfl ?_ (lds)).trans ?_; (· rfl); (· with_reducible rfl))
        · simp only [Act.put, List.setIfInBounds_toArray, List.set_cons_zero, List.set_cons_succ]; rfl
        refine pi_round (l := l) (f := fn) (tmps := tmps) (assign := assign) (body := body) (fun _ => trivial) rfl rfl rfl rfl ?_ (hR.mono ?_)
        · go_simp
        rintro e w4 ⟨rfl, hJ4, hk4⟩
        refine ⟨_, _, rfl, (by simp only [Act.put, List.setIfInBounds_toArray, List.set_cons_zero, List.set_cons_succ]; rfl), ?_⟩
        refine wpListIn_nil ?_
        go_wp2_with fail
        go_end0
        exact ⟨⟨_, rfl⟩, hJ4⟩
end Go.Proofs.YtjcpgjnogcmalaaDoor.Three

/-! A token's last code, by the program. -/
namespace Go.Proofs.YtjcpgjnogcmalaaDoor
set_option linter.unusedVariables false
set_option linter.unusedSimpArgs false
open Go.RowKit
set_option maxHeartbeats 1000000 in
set_option maxRecDepth 100000 in
theorem tchain_any (w : World) (root : List UInt8) (t : Tok) (a : Value) (ha : a.oneCell' = true) :
    Calls Tryd.prog 72 #[.agg (macA root), .agg (tokA t a)] w fun e w' => e = .returned (.func (.func 96) #[] #[.pointer (some ⟨w.heap.size, 0, none⟩), .pointer (some ⟨w.heap.size + 1, 0, none⟩)]) ∧ Blk w' w.heap.size 23 (macA root) ∧ Blk w' (w.heap.size + 1) 27 (tokA t a) ∧ Ext w w' := by
  have B1 : Blk ((w.alloc (.cells (macA root) 23)).alloc (.cells (tokA t a) 27)) w.heap.size 23 (macA root) := (Blk.new _ _ _).alloc _
  have B2 : Blk ((w.alloc (.cells (macA root) 23)).alloc (.cells (tokA t a) 27)) (w.heap.size + 1) 27 (tokA t a) := by have := Blk.new (w.alloc (.cells (macA root) 23)) 27 (tokA t a); simpa using this
  have hE : Ext w ((w.alloc (.cells (macA root) 23)).alloc (.cells (tokA t a) 27)) := ((Ext.refl _).alloc _).alloc _
  generalize macA root = M at *
  generalize tokA t a = T at *
  go_enter Tryd.func72, Tryd.ntmps72
  go_wp2_with fail
  go_ret
  exact ⟨rfl, B1, B2, hE⟩
theorem zip1 (p : Nat) (v : Value) (T : Array Value) : ((#[p] : Array Nat).zip #[v]).foldl (fun t (p, v) => t.setIfInBounds p v) T = T.setIfInBounds p v := by simp
def lastC (root : List UInt8) (t : Tok) : Nat → Array Value
  | 0 => #[.int .u8 0, .int .u8 0, .int .u8 0, .int .u8 0, .int .u8 0, .int .u8 0, .int .u8 0, .int .u8 0, .int .u8 0, .int .u8 0, .int .u8 0, .int .u8 0, .int .u8 0, .int .u8 0, .int .u8 0, .int .u8 0, .int .u8 0, .int .u8 0, .int .u8 0, .int .u8 0, .int .u8 0, .int .u8 0, .int .u8 0, .int .u8 0, .int .u8 0, .int .u8 0, .int .u8 0, .int .u8 0, .int .u8 0, .int .u8 0, .int .u8 0, .int .u8 0]
  | k + 1 => macA (chAt root t k)
theorem lastC_size (root : List UInt8) (t : Tok) (k : Nat) : (lastC root t k).size = 32 := by cases k <;> rfl
theorem lastC_one (root : List UInt8) (t : Tok) (k : Nat) : (lastC root t k).all (·.oneCell') = true := by
  cases k
  · show (#[.int .u8 0, .int .u8 0, .int .u8 0, .int .u8 0, .int .u8 0, .int .u8 0, .int .u8 0, .int .u8 0, .int .u8 0, .int .u8 0, .int .u8 0, .int .u8 0, .int .u8 0, .int .u8 0, .int .u8 0, .int .u8 0, .int .u8 0, .int .u8 0, .int .u8 0, .int .u8 0, .int .u8 0, .int .u8 0, .int .u8 0, .int .u8 0, .int .u8 0, .int .u8 0, .int .u8 0, .int .u8 0, .int .u8 0, .int .u8 0, .int .u8 0, .int .u8 0] : Array Value).all (·.oneCell') = true
    kernel_rfl
  · exact macA_one _
theorem below_ext {w A B : World} {N : Nat} (h : Ext w A) (k : Below N A B) (hN : w.heap.size ≤ N) : Ext w B := Below.trans h (Below.mono k hN)
theorem below_blk {A B : World} {N g : Nat} {t : TypeId} {cs : Array Value} (h : Blk A g t cs) (k : Below N A B) (hN : g < N) : Blk B g t cs := (k.block g hN).trans h
set_option maxHeartbeats 9000000 in
set_option maxRecDepth 100000 in
theorem tend_any (w : World) (root : List UInt8) (t : Tok) (a : Value) (hr : root.length = 32) (ht : TokFit t) (hK : KAt w) (hI : IAt w) (hG : GsV w t.gs a) :
    Calls Tryd.prog 46 #[.agg (macA root), .agg (tokA t a)] w fun e w' => e = .returned (.agg (macA (chain root t))) ∧ Ext w w' := by
  have ha : a.oneCell' = true := by obtain ⟨A, c, rfl, _⟩ := hG; rfl
  obtain ⟨W, hW, hE, -⟩ := box3 w (macA root) (tokA t a) #[.int .u8 0, .int .u8 0, .int .u8 0, .int .u8 0, .int .u8 0, .int .u8 0, .int .u8 0, .int .u8 0, .int .u8 0, .int .u8 0, .int .u8 0, .int .u8 0, .int .u8 0, .int .u8 0, .int .u8 0, .int .u8 0, .int .u8 0, .int .u8 0, .int .u8 0, .int .u8 0, .int .u8 0, .int .u8 0, .int .u8 0, .int .u8 0, .int .u8 0, .int .u8 0, .int .u8 0, .int .u8 0, .int .u8 0, .int .u8 0, .int .u8 0, .int .u8 0] 23 27 25
  have B1 : Blk W w.heap.size 23 (macA root) := by rw [hW]; exact ((Blk.new _ _ _).alloc _).alloc _
  have B2 : Blk W (w.heap.size + 1) 27 (tokA t a) := by rw [hW]; have := Blk.new (w.alloc (.cells (macA root) 23)) 27 (tokA t a); simpa using this.alloc _
  have B3 : Blk W (w.heap.size + 1 + 1) 25 #[.int .u8 0, .int .u8 0, .int .u8 0, .int .u8 0, .int .u8 0, .int .u8 0, .int .u8 0, .int .u8 0, .int .u8 0, .int .u8 0, .int .u8 0, .int .u8 0, .int .u8 0, .int .u8 0, .int .u8 0, .int .u8 0, .int .u8 0, .int .u8 0, .int .u8 0, .int .u8 0, .int .u8 0, .int .u8 0, .int .u8 0, .int .u8 0, .int .u8 0, .int .u8 0, .int .u8 0, .int .u8 0, .int .u8 0, .int .u8 0, .int .u8 0, .int .u8 0] := by rw [hW]; have := Blk.new ((w.alloc (.cells (macA root) 23)).alloc (.cells (tokA t a) 27)) 25 #[.int .u8 0, .int .u8 0, .int .u8 0, .int .u8 0, .int .u8 0, .int .u8 0, .int .u8 0, .int .u8 0, .int .u8 0, .int .u8 0, .int .u8 0, .int .u8 0, .int .u8 0, .int .u8 0, .int .u8 0, .int .u8 0, .int .u8 0, .int .u8 0, .int .u8 0, .int .u8 0, .int .u8 0, .int .u8 0, .int .u8 0, .int .u8 0, .int .u8 0, .int .u8 0, .int .u8 0, .int .u8 0, .int .u8 0, .int .u8 0, .int .u8 0, .int .u8 0]; simpa using this
  refine callsIn_wide.1 (callsIn_of_wp_marks (n := 0) Tryd.func46 rfl trivial ?_ rfl)
  refine wpIn_wide.2 ?_
  simp only [Tryd.ntmps46, List.size_toArray, List.length_cons, List.length_nil, Nat.reduceAdd, Nat.reduceSub, Array.replicate_succ, Array.replicate_zero, List.push_toArray, List.append_toArray, List.nil_append, List.cons_append]
  have hch := fun (w' : World) => tchain_any w' root t a ha
  obtain ⟨M, hM⟩ : ∃ M, macA root = M := ⟨_, rfl⟩
  obtain ⟨T, hT⟩ : ∃ T, tokA t a = T := ⟨_, rfl⟩
  have szM : M.size = 32 := by rw [← hM]; exact macA_size _
  have szT : T.size = 35 := by rw [← hT]; exact tokA_size _ _
  rw [hM, hT] at hch
  rw [hM, hT] at hW
  rw [hM] at B1
  rw [hT] at B2
  rw [hM, hT]
  have HM := Lib.hid hM
  have HT := Lib.hid hT
  clear hM hT ha
  go_upto_region 1 with fail
  rw [← hW]
  clear hW
  obtain ⟨r0, hr0⟩ : ∃ z, w.heap.size + 1 + 1 = z := ⟨_, rfl⟩
  obtain ⟨t0, ht0⟩ : ∃ z, w.heap.size + 1 = z := ⟨_, rfl⟩
  rw [ht0] at B2 hr0
  rw [ht0, hr0] at B3 ⊢
  refine wp_region_lit ?_
  have eW1 : Ext W (W.alloc (.cells #[.int .u8 0, .int .u8 0, .int .u8 0, .int .u8 0, .int .u8 0, .int .u8 0, .int .u8 0, .int .u8 0, .int .u8 0, .int .u8 0, .int .u8 0, .int .u8 0, .int .u8 0, .int .u8 0, .int .u8 0, .int .u8 0, .int .u8 0, .int .u8 0, .int .u8 0, .int .u8 0, .int .u8 0, .int .u8 0, .int .u8 0, .int .u8 0, .int .u8 0, .int .u8 0, .int .u8 0, .int .u8 0, .int .u8 0, .int .u8 0, .int .u8 0, .int .u8 0] 25)) := (Ext.refl _).alloc _
  have B5 := Blk.new W 25 #[.int .u8 0, .int .u8 0, .int .u8 0, .int .u8 0, .int .u8 0, .int .u8 0, .int .u8 0, .int .u8 0, .int .u8 0, .int .u8 0, .int .u8 0, .int .u8 0, .int .u8 0, .int .u8 0, .int .u8 0, .int .u8 0, .int .u8 0, .int .u8 0, .int .u8 0, .int .u8 0, .int .u8 0, .int .u8 0, .int .u8 0, .int .u8 0, .int .u8 0, .int .u8 0, .int .u8 0, .int .u8 0, .int .u8 0, .int .u8 0, .int .u8 0, .int .u8 0]
  refine pl_v (v := ?_) (w1 := ?_) (a' := ?_) rfl (by rfl) ?_ ?_ ?_
  rotate_left 3
  · go_simp; refine ⟨?_, ?_⟩ <;> with_reducible rfl
  · simp only [Act.put, List.setIfInBounds_toArray, List.set_cons_zero, List.set_cons_succ]; rfl
  have pB : r0 < W.heap.size := B3.lt
  generalize W.alloc (.cells #[.int .u8 0, .int .u8 0, .int .u8 0, .int .u8 0, .int .u8 0, .int .u8 0, .int .u8 0, .int .u8 0, .int .u8 0, .int .u8 0, .int .u8 0, .int .u8 0, .int .u8 0, .int .u8 0, .int .u8 0, .int .u8 0, .int .u8 0, .int .u8 0, .int .u8 0, .int .u8 0, .int .u8 0, .int .u8 0, .int .u8 0, .int .u8 0, .int .u8 0, .int .u8 0, .int .u8 0, .int .u8 0, .int .u8 0, .int .u8 0, .int .u8 0, .int .u8 0] 25) = w1 at *
  generalize W.heap.size = B at *
  refine wpList_nil ?_
  have ld1 := load_whole (B1.ext eW1) 23 _ Tryd.underlying23 rfl (by rw [szM]; kernel_rfl)
  have ld2 := load_whole (B2.ext eW1) 27 _ Tryd.underlying27 rfl (by rw [szT]; kernel_rfl)
  go_upto_region 2 with fail
  refine wp_region_lit ?_
  refine pl_y (v := ?_) (a' := ?_) rfl (by rfl) ?_ ?_ ?_
  rotate_left 2
  · (refine (run_op_load rfl ?_ (ld1)).trans ?_; (· rfl); (· with_reducible rfl))
  · simp only [Act.put, List.setIfInBounds_toArray, List.set_cons_zero, List.set_cons_succ]; rfl
  refine pl_y (v := ?_) (a' := ?_) rfl (by rfl) ?_ ?_ ?_
  rotate_left 2
  · (refine (run_op_load rfl ?_ (ld2)).trans ?_; (· rfl); (· with_reducible rfl))
  · simp only [Act.put, List.setIfInBounds_toArray, List.set_cons_zero, List.set_cons_succ]; rfl
  refine pl_call (args := ?_) Tryd.func72 (by kernel_rfl) rfl (by rfl) rfl rfl ?_ ?_
  rotate_left 1
  · go_simp; with_reducible rfl
  (with_reducible refine (hch w1).mono ?_)
  rintro e w2 ⟨rfl, BR, BT, hE2⟩
  refine ⟨_, _, rfl, (by simp only [Act.put, List.setIfInBounds_toArray, List.set_cons_zero, List.set_cons_succ]; rfl), ?_⟩
  refine wpList_nil ?_
  have eW2 : Ext W w2 := eW1.trans hE2
  have BB : Blk w2 B 25 #[.int .u8 0, .int .u8 0, .int .u8 0, .int .u8 0, .int .u8 0, .int .u8 0, .int .u8 0, .int .u8 0, .int .u8 0, .int .u8 0, .int .u8 0, .int .u8 0, .int .u8 0, .int .u8 0, .int .u8 0, .int .u8 0, .int .u8 0, .int .u8 0, .int .u8 0, .int .u8 0, .int .u8 0, .int .u8 0, .int .u8 0, .int .u8 0, .int .u8 0, .int .u8 0, .int .u8 0, .int .u8 0, .int .u8 0, .int .u8 0, .int .u8 0, .int .u8 0] := B5.ext hE2
  have BO : Blk w2 r0 25 #[.int .u8 0, .int .u8 0, .int .u8 0, .int .u8 0, .int .u8 0, .int .u8 0, .int .u8 0, .int .u8 0, .int .u8 0, .int .u8 0, .int .u8 0, .int .u8 0, .int .u8 0, .int .u8 0, .int .u8 0, .int .u8 0, .int .u8 0, .int .u8 0, .int .u8 0, .int .u8 0, .int .u8 0, .int .u8 0, .int .u8 0, .int .u8 0, .int .u8 0, .int .u8 0, .int .u8 0, .int .u8 0, .int .u8 0, .int .u8 0, .int .u8 0, .int .u8 0] := B3.ext eW2
  have hBlt : B < w1.heap.size := B5.lt
  have hp2 : w1.heap.size + 1 < w2.heap.size := BT.lt
  have hE : Ext w w2 := hE.trans eW2
  have hBw : w.heap.size ≤ B := by omega
  generalize w1.heap.size = rb at *
  clear ld1 ld2 hch B1 B2 B3 B5 eW1 eW2 hE2
  go_wp2_with fail
  have hlen : ((List.range (t.gs.length + 1)).map (chAt root t)).length = t.gs.length + 1 := by simp
  have hget : ∀ k (hk : k < ((List.range (t.gs.length + 1)).map (chAt root t)).length), ((List.range (t.gs.length + 1)).map (chAt root t))[k]'hk = chAt root t k := fun k hk => by simp
  refine wp_range (gf := 96) (lb := #[.pointer (some ⟨rb, 0, none⟩), .pointer (some ⟨rb + 1, 0, none⟩)]) rfl (fun args w => enters Tryd.func96 rfl rfl args w) (encs := fun x => #[.agg (macA x)]) (fun _ => rfl) ((List.range (t.gs.length + 1)).map (chAt root t)) (· ≠ B) (Below (w2.heap.size + 2))
    (fun k A => Ext w A ∧ Blk A B 25 (lastC root t k) ∧ Blk A r0 25 #[.int .u8 0, .int .u8 0, .int .u8 0, .int .u8 0, .int .u8 0, .int .u8 0, .int .u8 0, .int .u8 0, .int .u8 0, .int .u8 0, .int .u8 0, .int .u8 0, .int .u8 0, .int .u8 0, .int .u8 0, .int .u8 0, .int .u8 0, .int .u8 0, .int .u8 0, .int .u8 0, .int .u8 0, .int .u8 0, .int .u8 0, .int .u8 0, .int .u8 0, .int .u8 0, .int .u8 0, .int .u8 0, .int .u8 0, .int .u8 0, .int .u8 0, .int .u8 0]) ?seq ?ab ?iab ?iput ?h0 ?round ?done
  case seq =>
    intro V eV sV J hJ hY hJ0
    rw [hlen]
    have h := Three.chain1_any w V (w2.heap.size + 1) rb (rb + 1) B root t a hr ht hK hI hG (hE.trans eV).cle hBw (by omega) (by omega) (by omega) (by rw [HM.out]; exact BR.ext eV) (by rw [HT.out]; exact BT.ext eV) J (fun k A A' h1 h2 => hJ k A A' h1 (by rw [← sV]; exact h2)) (fun k hk A hA => by have := hY k (by rw [hlen]; exact hk) A hA; rw [hget] at this; exact this) hJ0
    exact h
  case ab =>
    intro A A' h j hj
    exact h.block j (by omega)
  case iab =>
    rintro k A A' ⟨h1, h2, h3⟩ h
    exact ⟨below_ext h1 h (by have := hE.le; omega), below_blk h2 h (by omega), below_blk h3 h (by omega)⟩
  case iput =>
    rintro k A o ⟨h1, h2, h3⟩
    exact ⟨h1.put (by have := hE.le; omega) o, h2.put (by omega) o, h3.put (by omega) o⟩
  case h0 =>
    intro V eV sV
    exact ⟨hE.trans eV, BB.ext eV, BO.ext eV⟩
  case round =>
    rintro k hk V ⟨h1, h2, h3⟩ hs o ho hoc
    rw [hget, zip1]
    obtain ⟨C, hC⟩ : ∃ C, macA (chAt root t k) = C := ⟨_, rfl⟩
    have szC : C.size = 32 := by rw [← hC]; exact macA_size _
    have oneC : C.all (·.oneCell') = true := by rw [← hC]; exact macA_one _
    rw [hC]
    simp only [List.setIfInBounds_toArray, List.set_cons_zero, List.set_cons_succ]
    obtain ⟨V1, hst1, BX, e1⟩ := box_row V 25 #[.int .u8 0, .int .u8 0, .int .u8 0, .int .u8 0, .int .u8 0, .int .u8 0, .int .u8 0, .int .u8 0, .int .u8 0, .int .u8 0, .int .u8 0, .int .u8 0, .int .u8 0, .int .u8 0, .int .u8 0, .int .u8 0, .int .u8 0, .int .u8 0, .int .u8 0, .int .u8 0, .int .u8 0, .int .u8 0, .int .u8 0, .int .u8 0, .int .u8 0, .int .u8 0, .int .u8 0, .int .u8 0, .int .u8 0, .int .u8 0, .int .u8 0, .int .u8 0] C (by rw [szC]; rfl) (by rw [szC]; kernel_rfl) oneC
    refine wpIn_region_lit ?_
    refine pi_v (v := ?_) (w1 := ?_) (a' := ?_) (fun _ => trivial) rfl rfl rfl ?_ ?_ ?_
    rotate_left 3
    · go_simp; refine ⟨?_, ?_⟩ <;> with_reducible rfl
    · simp only [Act.put, List.setIfInBounds_toArray, List.set_cons_zero, List.set_cons_succ]; rfl
    refine pi_store (fun _ => trivial) rfl rfl rfl (run_op_store rfl ?_ ?_ hst1) ?_
    · rfl
    · rfl
    refine wpListIn_nil ?_
    simp only [Exit.then]
    have hle : w2.heap.size + 2 ≤ V1.heap.size := by have := e1.le; omega
    refine ⟨e1.block _ (by omega), e1.block _ (by omega), fun o' => ?_⟩
    have ldx := load_whole (BX.put (l := w2.heap.size + 1) (by omega) o') 25 _ Tryd.underlying25 rfl (by rw [szC]; kernel_rfl)
    have hl1 : V1.heap[w2.heap.size + 1]? = some o := (e1.block _ (by omega)).trans ho
    have hkp : KeepP (· ≠ B) V (V1.putObj (w2.heap.size + 1) o') := (KeepP.ext e1).trans (KeepP.put o' hl1 hoc)
    have h1' : Ext w (V1.putObj (w2.heap.size + 1) o') := (h1.trans e1).put (by have := hE.le; omega) o'
    have h2' := (h2.ext e1).put (l := w2.heap.size + 1) (by omega) o'
    have h3' := (h3.ext e1).put (l := w2.heap.size + 1) (by omega) o'
    have hsz' : w2.heap.size + 2 ≤ (V1.putObj (w2.heap.size + 1) o').heap.size := by simpa using hle
    generalize V1.putObj (w2.heap.size + 1) o' = V2 at *
    generalize V.heap.size = gx at *
    obtain ⟨V3, hst3, BB3, hX3⟩ := over_row (C := C) h2' (by rw [szC, lastC_size]) (by rw [szC]; kernel_rfl) oneC
    refine wpIn_block (wpIn_region_lit ?_)
    refine pi_y (v := ?_) (a' := ?_) (fun _ => trivial) rfl rfl rfl ?_ ?_ ?_
    rotate_left 2
    · (refine (run_op_load rfl ?_ (ldx)).trans ?_; (· rfl); (· with_reducible rfl))
    · simp only [Act.put, List.setIfInBounds_toArray, List.set_cons_zero, List.set_cons_succ]; rfl
    refine pi_store (fun _ => trivial) rfl rfl rfl (run_op_store rfl ?_ ?_ hst3) ?_
    · rfl
    · rfl
    refine wpListIn_nil ?_
    simp only [Exit.inBlock]
    refine ⟨hX3.block _ (by omega) (.inr (by omega)), hX3.block _ (by omega) (.inr (by omega)), ⟨Exc.ext h1' hX3 hBw, ?_, hX3.blk h3' (.inl (by omega))⟩, hkp.trans (KeepP.exc hX3 (fun b hb => by have : b ≠ B := hb; omega))⟩
    show Blk V3 B 25 (macA (chAt root t k))
    rw [hC]; exact BB3
  case done =>
    rintro V ⟨h1, h2, h3⟩ hD
    rw [hlen] at h2
    have h2 : Blk V B 25 (macA (chain root t)) := h2
    obtain ⟨C, hC⟩ : ∃ C, macA (chain root t) = C := ⟨_, rfl⟩
    have szC : C.size = 32 := by rw [← hC]; exact macA_size _
    have oneC : C.all (·.oneCell') = true := by rw [← hC]; exact macA_one _
    rw [hC] at h2
    have HC := Lib.hid hC
    clear hC
    have ldx := load_whole h2 25 _ Tryd.underlying25 rfl (by rw [szC]; kernel_rfl)
    obtain ⟨V3, hst3, BO3, hX3⟩ := over_row (C := C) h3 (by rw [szC]; rfl) (by rw [szC]; kernel_rfl) oneC
    have hD3 : V3.heap[w2.heap.size]? = some (.deferred (some [])) := (hX3.block _ (Array.getElem?_eq_some_iff.1 hD).1 (.inr (by omega))).trans hD
    have hE3 : Ext w V3 := Exc.ext h1 hX3 (by omega)
    clear h1 h2 h3 hX3 hD
    go_upto_region 5 with fail
    refine wp_region_lit ?_
    refine pl_y (v := ?_) (a' := ?_) rfl (by rfl) ?_ ?_ ?_
    rotate_left 2
    · (refine (run_op_load rfl ?_ (ldx)).trans ?_; (· rfl); (· with_reducible rfl))
    · simp only [Act.put, List.setIfInBounds_toArray, List.set_cons_zero, List.set_cons_succ]; rfl
    refine pl_store (by rfl) rfl (run_op_store rfl ?_ ?_ hst3) ?_
    · rfl
    · rfl
    refine wpList_nil ?_
    go_wp2_with fail
    refine leave_mark hD3 (results_cell_row (P := Tryd.prog) (fn := Tryd.f46) rfl _ (V3.putObj w2.heap.size (.deferred none)) r0 _ _ _ _ rfl (BO3.put (by omega) _) Tryd.underlying25 rfl (by rw [szC]; kernel_rfl)) ⟨?_, hE3.put (by have := hE.le; omega) _⟩
    rw [HC.out]
end Go.Proofs.YtjcpgjnogcmalaaDoor
