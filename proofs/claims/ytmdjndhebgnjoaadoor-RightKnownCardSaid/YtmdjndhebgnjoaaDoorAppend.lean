/- append to a slice of the call's own, of whatever slice is read: one law for plain regions and for walked ones; a slice expression. -/
import Derived.Test.YtmdjndhebgnjoaaDoorOwn
import Derived.Test.YtmdjndhebgnjoaaDoorTree
import Derived.Laws.OwnMore
import Derived.Laws.Slices
namespace Go.Proofs.YtmdjndhebgnjoaaDoor
set_option linter.unusedVariables false
set_option linter.unusedSimpArgs false
open Go.RowKit
/-- n elements of sz cells from A on are these cells. -/
def Cells (w : World) (A : Option Addr) (n sz : Nat) (news : List Value) : Prop :=
  news.length = n * sz ∧ (A = none → n = 0) ∧ ∀ ad, A = some ad → ∀ j u, news[j]? = some u → w.cell? (ad.add j) = some u
/-- A slice type, its element's cells and bytes. -/
structure Elt (P : Program) (t e : TypeId) (sz bytes : Nat) : Prop where
  ht : P.underlying t = some (.slice e)
  hi : ∃ i z, P.info? e = some i ∧ i.zero = some z ∧ i.size = sz ∧ i.bytes = bytes ∧ z.cells.size = sz
  hs : 0 < sz
theorem Elt.mk' {P : Program} {t e : TypeId} {sz bytes : Nat} {z : Value} (ht : P.underlying t = some (.slice e)) (h : (P.info? e).map (fun i => (i.zero, i.size, i.bytes)) = some (some z, sz, bytes)) (hz : z.cells.size = sz) (hs : 0 < sz) : Elt P t e sz bytes := by
  obtain ⟨i, hi, h0, h1, h2⟩ := info_parts h
  exact ⟨ht, ⟨i, z, hi, h0, h1, h2, hz⟩, hs⟩
section
variable {P : Program} {t e : TypeId} {sz bytes : Nat} {w : World} {base : Nat} {v : Value} {n m c : Nat} {xs news : List Value} {A : Option Addr}
theorem run_append_cells (E : Elt P t e sz bytes) (ty : TypeId) (hown : w.ownsRow base e sz v n xs) (hc : Cells w A m sz news) (h1 : ∀ u ∈ news, u.oneCell' = true)
    (h63 : n + m ≤ maxLen) (hbytes : (n + m) * bytes ≤ 140737488355328) (hbase : base ≤ w.heap.size) :
    ∃ v' w', (Builtin.append_ #[t, t] ty #[v, .slice A m c]).run P w = .ok v' w' ∧ w'.ownsRow base e sz v' (n + m) (xs ++ news) ∧ w.grownBy w' v.ownBlock := by
  obtain ⟨i, z, hi, hz, hsz, hby, hzc⟩ := E.hi
  cases A with
  | some ad =>
    obtain ⟨v', w', h2, h3, h4, _⟩ := run_append_own (P := P) w base t ty e i z sz bytes E.ht hi hz hsz hby hzc E.hs v n xs hown ad m c news hc.1 (hc.2.2 ad rfl) h1 h63 hbytes hbase
    exact ⟨v', w', h2, h3, h4⟩
  | none =>
    obtain rfl : m = 0 := hc.2.1 rfl
    obtain rfl : news = [] := List.eq_nil_of_length_eq_zero (by rw [hc.1]; simp)
    refine ⟨v, w, ?_, by simpa using hown, ⟨rfl, rfl, rfl, Nat.le_refl _, fun _ _ _ => rfl⟩⟩
    subst hsz
    rcases hown.2 with ⟨rfl, rfl⟩ | ⟨g, cap, cur, rfl, _, _, hnc, _⟩
    · simp [Builtin.append_, run_underlying E.ht, sizeOf, typeInfo, hi, Builtin.lenOf, Builtin.firstCells]
    · simp [Builtin.append_, run_underlying E.ht, sizeOf, typeInfo, hi, Builtin.lenOf, Builtin.firstCells, hnc, storeCells]
theorem wp_append_cells {o : Oper} {a : Act} {K : Act → World → Prop} {Q : Exit → Act → World → Prop} (E : Elt P t e sz bytes) (s x : Operand)
    (ho : o.op = .call { callee := .builtin .append, args := #[s, x], argTypes := #[t, t] }) (hown : w.ownsRow base e sz (a.eval s) n xs) (hx : a.eval x = .slice A m c) (hc : Cells w A m sz news) (h1 : ∀ u ∈ news, u.oneCell' = true)
    (h63 : n + m ≤ maxLen) (hbytes : (n + m) * bytes ≤ 140737488355328) (hbase : base ≤ w.heap.size)
    (h : ∀ v' w', w'.ownsRow base e sz v' (n + m) (xs ++ news) → w.grownBy w' (a.eval s).ownBlock → K (a.put o.dst v') w') : o.wp P a w K Q := by
  obtain ⟨v', w', hr, h2, h3⟩ := run_append_cells (c := c) E o.type hown hc h1 h63 hbytes hbase
  unfold Oper.wp execOp
  simp only [ho, resolve, invoke, builtin, Sem.run_bind, Sem.run_pure, Result.andThen_ok, List.map_toArray, List.map_cons, List.map_nil, hx, hr]
  exact h v' w' h2 h3
theorem wpList_append_cells {ops : Array Oper} {rest : List Oper} {o : Oper} {a : Act} {Q : Exit → Act → World → Prop} (hgd : o.guard = none) (E : Elt P t e sz bytes) (s x : Operand)
    (ho : o.op = .call { callee := .builtin .append, args := #[s, x], argTypes := #[t, t] }) (hown : w.ownsRow base e sz v n xs) (hs : a.eval s = v) (hx : a.eval x = .slice A m c) (hc : Cells w A m sz news) (h1 : ∀ u ∈ news, u.oneCell' = true)
    (h63 : n + m ≤ maxLen) (hbytes : (n + m) * bytes ≤ 140737488355328) (hbase : base ≤ w.heap.size)
    (h : ∀ v' w', w'.ownsRow base e sz v' (n + m) (xs ++ news) → w.grownBy w' v.ownBlock → wpList P ops Q rest (a.put o.dst v') w') : wpList P ops Q (o :: rest) a w := by
  subst hs
  exact wpList_plain hgd fun _ hK => wp_append_cells E s x ho hown hx hc h1 h63 hbytes hbase fun v' w' h2 h3 => hK _ _ (h v' w' h2 h3)
/-- The same at a walked region's step. -/
theorem tr_append {ops : Array Oper} {Q : Exit → Act → World → Prop} {S : World → Prop} {i : Nat} {r : Tr} {o : Oper} {a : Act} {nn : Tmp} (hi : ops[i]? = some o) (hw : Region.wanted o (yielded ops a.tmps) = true) (hN : o.dst = some nn) (E : Elt P t e sz bytes) (s x : Operand)
    (ho : o.op = .call { callee := .builtin .append, args := #[s, x], argTypes := #[t, t] }) (hown : w.ownsRow base e sz v n xs) (hs : a.eval s = v) (hx : a.eval x = .slice A m c) (hc : Cells w A m sz news) (h1 : ∀ u ∈ news, u.oneCell' = true)
    (h63 : n + m ≤ maxLen) (hbytes : (n + m) * bytes ≤ 140737488355328) (hbase : base ≤ w.heap.size)
    (h : ∀ v' w', w'.ownsRow base e sz v' (n + m) (xs ++ news) → w.grownBy w' v.ownBlock → ∃ a', S w' ∧ a.put (some nn) v' = a' ∧ wpTr P ops Q S r a' w') : wpTr P ops Q S (.e i r) a w := by
  subst hs
  exact tr_step hi hw (wp_append_cells E s x ho hown hx hc h1 h63 hbytes hbase fun v' w' h2 h3 => by
    obtain ⟨a', hS, rfl, hk⟩ := h v' w' h2 h3
    rw [hN]
    exact ⟨hS, hk⟩)
/-- The cells of a slice that is read by a descriptor whose cells are f's. -/
theorem sl_cellsOf {α : Type} {d : Rd α} {f : α → List Value} (hK : ∀ w x cs, d.K w x cs → cs = f x) (hf : ∀ x, (f x).length = d.sz) {ys : List α} (h : d.Sl w A m ys) : Cells w A m d.sz (ys.flatMap f) := by
  refine ⟨?_, fun hA => ?_, fun ad hA j u hu => ?_⟩
  · rw [← h.1]
    clear h
    induction ys with
    | nil => simp
    | cons x l ih => rw [List.flatMap_cons, List.length_append, hf, ih, List.length_cons, Nat.add_mul]; omega
  · rcases Nat.eq_zero_or_pos m with h0 | h0
    · exact h0
    · obtain ⟨b, o, e, _⟩ := h.2 h0
      rw [hA] at e; cases e
  · have hlen : (ys.flatMap f).length = m * d.sz := by
      rw [← h.1]
      clear hu h
      induction ys with
      | nil => simp
      | cons x l ih => rw [List.flatMap_cons, List.length_append, hf, ih, List.length_cons, Nat.add_mul]; omega
    have hj : j < m * d.sz := by
      have := (List.getElem?_eq_some_iff.1 hu).1
      rwa [hlen] at this
    have hsz : 0 < d.sz := Nat.pos_of_ne_zero fun e => by rw [e] at hj; omega
    have hi : j / d.sz < m := (Nat.div_lt_iff_lt_mul hsz).2 hj
    obtain ⟨b, o, cs, e, hk, hcell⟩ := h.get (j / d.sz) hi
    rw [hA] at e
    obtain rfl := Option.some.inj e
    have hcs := hK _ _ _ hk
    have hm : j % d.sz < d.sz := Nat.mod_lt _ hsz
    have hdm : j / d.sz * d.sz + j % d.sz = j := by rw [Nat.mul_comm]; exact Nat.div_add_mod _ _
    have h1 := flat_get hf ys (j / d.sz) (j % d.sz) (by rw [h.1]; exact hi) hm
    rw [hdm, hu] at h1
    have h2 := hcell (j % d.sz) u (by rw [hcs]; exact h1.symm)
    have e2 : (⟨b, o, none⟩ : Addr).add j = ⟨b, o + j / d.sz * d.sz + j % d.sz, none⟩ := by
      unfold Addr.add
      rw [Nat.add_assoc, hdm]
      split <;> simp_all
    rw [e2]
    exact h2
/-- Where a slice's rest lies. -/
def restA (A : Option Addr) (c i sz : Nat) : Option Addr := if c = i then A else A.map (·.add (i * sz))
theorem run_slice_from (E : Elt P t e sz bytes) (A : Option Addr) (n c i : Nat) (h : i ≤ n) (w : World) : (Instr.sliceAt t (.slice A n c) (some (.int .i64 i)) none none).run P w = .ok (.slice (restA A c i sz) (n - i) (c - i)) w := by
  obtain ⟨inf, z, hi, hz, hsz, hby, hzc⟩ := E.hi
  have h0 := E.ht
  have he : P.elem t = e := by simp [Program.elem, h0]
  have h2 : P.underlying t = some (.slice (P.elem t)) := by rw [he]; exact h0
  rw [run_sliceAt_slice _ t _ _ _ _ h2, run_slice_l _ t A n c h2 .i64 i (by omega) (by omega), he]
  simp [sizeOf, typeInfo, hi, hsz, sliced, restA, Result.andThen]
theorem wpList_slice_from {ops : Array Oper} {rest : List Oper} {o : Oper} {a : Act} {Q : Exit → Act → World → Prop} (hgd : o.guard = none) (E : Elt P t e sz bytes) (x lo : Operand) (ho : o.op = .slice t x (some lo) none none)
    (A : Option Addr) (n c i : Nat) (hx : a.eval x = .slice A n c) (hlo : a.eval lo = .int .i64 (i : Int)) (h : i ≤ n) (k : wpList P ops Q rest (a.put o.dst (.slice (restA A c i sz) (n - i) (c - i))) w) : wpList P ops Q (o :: rest) a w :=
  wpList_plain hgd fun K hK => by
    unfold Oper.wp execOp
    simp [ho, hx, hlo, run_slice_from E A n c i h w, Oper.upon]
    exact hK _ _ k
theorem sl_rest {α : Type} {d : Rd α} {ys : List α} (h : d.Sl w A n ys) (c i : Nat) (hi : i ≤ n) (hc : n ≤ c) : d.Sl w (restA A c i d.sz) (n - i) (ys.drop i) := by
  refine ⟨by rw [List.length_drop, h.1], fun h0 => ?_⟩
  obtain ⟨b, o, e, hcell⟩ := h.2 (by omega)
  refine ⟨b, o + i * d.sz, ?_, fun k hk => ?_⟩
  · unfold restA
    rw [if_neg (by omega), e]
    simp only [Option.map_some]
    unfold Addr.add
    split <;> simp_all
  · rw [List.length_drop] at hk
    obtain ⟨cs, hk', hc'⟩ := hcell (i + k) (by omega)
    refine ⟨cs, by rw [List.getElem_drop]; exact hk', fun j u hu => ?_⟩
    have := hc' j u hu
    rwa [Nat.add_mul, ← Nat.add_assoc] at this
end
end Go.Proofs.YtmdjndhebgnjoaaDoor
