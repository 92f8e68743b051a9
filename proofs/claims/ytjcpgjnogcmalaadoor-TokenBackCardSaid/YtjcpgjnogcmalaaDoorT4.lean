/- Commands and answers as cells; a part of a block read and written over. (and what follows) -/
import Derived.Test.YtjcpgjnogcmalaaDoorT3
import Derived.Test.YtjcpgjnogcmalaaDoorT2
import Derived.Deep.MidRow
import Derived.DeepKeys
import Derived.Laws.StructEq
import Derived.Test.YtjcpgjnogcmalaaDoorT1
import Derived.Great.BuildSlice
/-! Commands and answers as cells; a part of a block read and written over. -/
namespace Go.Proofs.YtjcpgjnogcmalaaDoor
set_option linter.unusedVariables false
set_option linter.unusedSimpArgs false
open Go.RowKit
def mb (m : List UInt8) (i : Nat) : Value := .int .u8 (m.getD i 0).toNat
def macA (m : List UInt8) : Array Value := #[mb m 0, mb m 1, mb m 2, mb m 3, mb m 4, mb m 5, mb m 6, mb m 7, mb m 8, mb m 9, mb m 10, mb m 11, mb m 12, mb m 13, mb m 14, mb m 15, mb m 16, mb m 17, mb m 18, mb m 19, mb m 20, mb m 21, mb m 22, mb m 23, mb m 24, mb m 25, mb m 26, mb m 27, mb m 28, mb m 29, mb m 30, mb m 31]
def tokA (t : Tok) (a : Value) : Array Value := #[.string t.ten, .int .i64 t.id, a, mb t.mac 0, mb t.mac 1, mb t.mac 2, mb t.mac 3, mb t.mac 4, mb t.mac 5, mb t.mac 6, mb t.mac 7, mb t.mac 8, mb t.mac 9, mb t.mac 10, mb t.mac 11, mb t.mac 12, mb t.mac 13, mb t.mac 14, mb t.mac 15, mb t.mac 16, mb t.mac 17, mb t.mac 18, mb t.mac 19, mb t.mac 20, mb t.mac 21, mb t.mac 22, mb t.mac 23, mb t.mac 24, mb t.mac 25, mb t.mac 26, mb t.mac 27, mb t.mac 28, mb t.mac 29, mb t.mac 30, mb t.mac 31]
def grA (g : Grant) : Array Value := #[.int .i64 g.r, .string g.p, .bool g.x, .int .i64 g.u]
def cmdA (c : Cmd) (a b : Value) : Array Value := #[.int .i64 c.kind, .string c.tok.ten, .int .i64 c.tok.id, a, mb c.tok.mac 0, mb c.tok.mac 1, mb c.tok.mac 2, mb c.tok.mac 3, mb c.tok.mac 4, mb c.tok.mac 5, mb c.tok.mac 6, mb c.tok.mac 7, mb c.tok.mac 8, mb c.tok.mac 9, mb c.tok.mac 10, mb c.tok.mac 11, mb c.tok.mac 12, mb c.tok.mac 13, mb c.tok.mac 14, mb c.tok.mac 15, mb c.tok.mac 16, mb c.tok.mac 17, mb c.tok.mac 18, mb c.tok.mac 19, mb c.tok.mac 20, mb c.tok.mac 21, mb c.tok.mac 22, mb c.tok.mac 23, mb c.tok.mac 24, mb c.tok.mac 25, mb c.tok.mac 26, mb c.tok.mac 27, mb c.tok.mac 28, mb c.tok.mac 29, mb c.tok.mac 30, mb c.tok.mac 31, .string c.st, .string c.su, .int .i64 c.ex, b, .int .i64 c.fr, .int .i64 c.ct, .int .i64 c.gr.r, .string c.gr.p, .bool c.gr.x, .int .i64 c.gr.u, .int .i64 c.id]
def shA (s : Shn) (b : Value) : Array Value := #[.string s.st, .string s.su, .int .i64 s.ver, .int .i64 s.pos, .int .i64 s.code, b]
def enA (e : Ent) : Array Value := #[.int .i64 e.no, .int .i64 e.clock, .int .i64 e.kind, .int .i64 e.code, .int .i64 e.id, .string e.st, .string e.su, mb e.sum 0, mb e.sum 1, mb e.sum 2, mb e.sum 3, mb e.sum 4, mb e.sum 5, mb e.sum 6, mb e.sum 7, mb e.sum 8, mb e.sum 9, mb e.sum 10, mb e.sum 11, mb e.sum 12, mb e.sum 13, mb e.sum 14, mb e.sum 15, mb e.sum 16, mb e.sum 17, mb e.sum 18, mb e.sum 19, mb e.sum 20, mb e.sum 21, mb e.sum 22, mb e.sum 23, mb e.sum 24, mb e.sum 25, mb e.sum 26, mb e.sum 27, mb e.sum 28, mb e.sum 29, mb e.sum 30, mb e.sum 31]
def ansA (x : Ans) (s a e : Value) : Array Value := #[.int .i64 x.code, .int .i64 x.num, s, .string x.tok.ten, .int .i64 x.tok.id, a, mb x.tok.mac 0, mb x.tok.mac 1, mb x.tok.mac 2, mb x.tok.mac 3, mb x.tok.mac 4, mb x.tok.mac 5, mb x.tok.mac 6, mb x.tok.mac 7, mb x.tok.mac 8, mb x.tok.mac 9, mb x.tok.mac 10, mb x.tok.mac 11, mb x.tok.mac 12, mb x.tok.mac 13, mb x.tok.mac 14, mb x.tok.mac 15, mb x.tok.mac 16, mb x.tok.mac 17, mb x.tok.mac 18, mb x.tok.mac 19, mb x.tok.mac 20, mb x.tok.mac 21, mb x.tok.mac 22, mb x.tok.mac 23, mb x.tok.mac 24, mb x.tok.mac 25, mb x.tok.mac 26, mb x.tok.mac 27, mb x.tok.mac 28, mb x.tok.mac 29, mb x.tok.mac 30, mb x.tok.mac 31, e]
theorem macA_at (m : List UInt8) (i : Nat) (h : i < 32) : (macA m)[i]? = some (mb m i) := by
  obtain rfl | rfl | rfl | rfl | rfl | rfl | rfl | rfl | rfl | rfl | rfl | rfl | rfl | rfl | rfl | rfl | rfl | rfl | rfl | rfl | rfl | rfl | rfl | rfl | rfl | rfl | rfl | rfl | rfl | rfl | rfl | rfl := (by omega : i = 0 ∨ i = 1 ∨ i = 2 ∨ i = 3 ∨ i = 4 ∨ i = 5 ∨ i = 6 ∨ i = 7 ∨ i = 8 ∨ i = 9 ∨ i = 10 ∨ i = 11 ∨ i = 12 ∨ i = 13 ∨ i = 14 ∨ i = 15 ∨ i = 16 ∨ i = 17 ∨ i = 18 ∨ i = 19 ∨ i = 20 ∨ i = 21 ∨ i = 22 ∨ i = 23 ∨ i = 24 ∨ i = 25 ∨ i = 26 ∨ i = 27 ∨ i = 28 ∨ i = 29 ∨ i = 30 ∨ i = 31)
  all_goals rfl
theorem macA_size (m : List UInt8) : (macA m).size = 32 := rfl
theorem tokA_size (t : Tok) (a : Value) : (tokA t a).size = 35 := rfl
theorem cmdA_size (c : Cmd) (a b : Value) : (cmdA c a b).size = 47 := rfl
theorem enA_size (e : Ent) : (enA e).size = 39 := rfl
theorem ansA_size (x : Ans) (s a e : Value) : (ansA x s a e).size = 39 := rfl
/-- C is the cells D with others ahead of them and behind. -/
theorem part_at {C : Array Value} {pre D post : List Value} (h : C = (pre ++ D ++ post).toArray) {o : Nat} (ho : pre.length = o) (j : Nat) (v : Value) (hv : D[j]? = some v) : C[o + j]? = some v := by
  have hj := (List.getElem?_eq_some_iff.1 hv).1
  rw [h, List.getElem?_toArray, List.append_assoc, List.getElem?_append_right (by omega), show o + j - pre.length = j by omega, List.getElem?_append_left hj]
  exact hv
section
variable {w : World} {g : Nat} {T : TypeId} {C : Array Value}
/-- A part of a block, loaded. -/
theorem load_part (B : Blk w g T C) (o : Nat) (D : Array Value) (pre post : List Value) (h : C = (pre ++ D.toList ++ post).toArray) (ho : pre.length = o) (ty : TypeId) (d : TypeDesc) (hu : Tryd.prog.underlying ty = some d) (hd : d.isRow = true) (hi : (Tryd.prog.info? ty).map (·.size) = some D.size) :
    (Instr.loadAt ty (.pointer (some ⟨g, o, none⟩))).run Tryd.prog w = .ok (.agg D) w := by
  have := run_loadAt_mid (P := Tryd.prog) w g o ty D.toList d (fun j v hv => B.cell (o + j) (part_at h ho j v hv)) hu hd (by rw [Array.length_toList]; exact hi)
  simpa using this
theorem load_whole (B : Blk w g T C) (ty : TypeId) (d : TypeDesc) (hu : Tryd.prog.underlying ty = some d) (hd : d.isRow = true) (hi : (Tryd.prog.info? ty).map (·.size) = some C.size) :
    (Instr.loadAt ty (.pointer (some ⟨g, 0, none⟩))).run Tryd.prog w = .ok (.agg C) w :=
  load_part B 0 C [] [] (by simp) rfl ty d hu hd hi
theorem setCells_blk : ∀ (vs : List Value) (w : World) (pre D post : List Value), D.length = vs.length → Blk w g T (pre ++ D ++ post).toArray → Blk (w.setCells g pre.length vs) g T (pre ++ vs ++ post).toArray
  | [], w, pre, D, post, hl, B => by
    have : D = [] := List.eq_nil_of_length_eq_zero hl
    subst this
    exact B
  | v :: vs, w, pre, [], post, hl, B => by simp at hl
  | v :: vs, w, pre, d :: D, post, hl, B => by
    have B2 := B.set_ pre.length v
    have e : (pre ++ d :: D ++ post).toArray.setIfInBounds pre.length v = ((pre ++ [v]) ++ D ++ post).toArray := by
      rw [List.setIfInBounds_toArray]
      congr 1
      simp [List.set_append]
    rw [e] at B2
    have h := setCells_blk vs (w.setCell ⟨g, pre.length, none⟩ v) (pre ++ [v]) D post (by simpa using hl) B2
    rw [List.length_append, List.length_singleton] at h
    rw [World.setCells]
    have e2 : pre ++ v :: vs ++ post = pre ++ [v] ++ vs ++ post := by simp
    rw [e2]
    exact h
theorem setCells_exc : ∀ (vs : List Value) (w : World) (o : Nat), Exc g (g + 1) w (w.setCells g o vs)
  | [], w, o => Exc.refl _ _ _
  | v :: vs, w, o => by
    rw [World.setCells]
    exact (Exc.setCell (p := ⟨g, o, none⟩) (Nat.le_refl _) (Nat.lt_succ_self _) v).trans (setCells_exc vs _ _)
/-- A part of a block, stored. -/
theorem store_part (B : Blk w g T C) (o : Nat) (D : Array Value) (pre old post : List Value) (h : C = (pre ++ old ++ post).toArray) (ho : pre.length = o) (hl : old.length = D.size) (ty : TypeId) (hi : (Tryd.prog.info? ty).map (·.size) = some D.size) (h1 : D.all (·.oneCell') = true) :
    ∃ w', (Instr.storeAt ty (.pointer (some ⟨g, o, none⟩)) (.agg D)).run Tryd.prog w = .ok () w' ∧ Blk w' g T (pre ++ D.toList ++ post).toArray ∧ Exc g (g + 1) w w' := by
  refine ⟨w.setCells g o D.toList, ?_, ?_, setCells_exc _ _ _⟩
  · refine run_storeAt_mid w g o ty D (fun j hj => ⟨?_, B.frozen _⟩) hi h1
    obtain ⟨v, hv⟩ : ∃ v, old[j]? = some v := ⟨_, List.getElem?_eq_getElem (by omega)⟩
    rw [B.cell (o + j) (part_at h ho j v hv)]
    rfl
  · subst ho
    exact setCells_blk D.toList w pre old post (by rw [Array.length_toList]; exact hl) (by rw [← h]; exact B)
end
/-- An operation that loads, its value given. -/
theorem run_op_load {P : Program} {o : Oper} {ev : Operand → Value} {ty : TypeId} {x : Operand} {w : World} {p v : Value} (ho : o.op = .load ty x) (hx : ev x = p) (h : (Instr.loadAt ty p).run P w = .ok v w) : (execOp ev o).run P w = .ok (.value v) w := by
  unfold execOp
  simp only [ho, hx, Sem.run_bind, h, Result.andThen_ok, Sem.run_pure]
theorem run_op_store {P : Program} {o : Oper} {ev : Operand → Value} {ty : TypeId} {x y : Operand} {w w' : World} {p v : Value} (ho : o.op = .store ty x y) (hx : ev x = p) (hy : ev y = v) (h : (Instr.storeAt ty p v).run P w = .ok () w') : (execOp ev o).run P w = .ok .skip w' := by
  unfold execOp
  simp only [ho, hx, hy, Sem.run_bind, h, Result.andThen_ok, Sem.run_pure]
theorem wpList_load_by {P : Program} {ops : Array Oper} {rest : List Oper} {o : Oper} {a : Act} {w : World} {Q : Exit → Act → World → Prop} (hgd : o.guard = none) {ty : TypeId} {x : Operand} (ho : o.op = .load ty x) {p v : Value} (hx : a.eval x = p) (h : (Instr.loadAt ty p).run P w = .ok v w)
    (k : wpList P ops Q rest (a.put o.dst v) w) : wpList P ops Q (o :: rest) a w :=
  wpList_plain hgd fun K hK => by
    unfold Oper.wp
    rw [run_op_load ho hx h]
    exact hK _ _ k
theorem wpList_store_by {P : Program} {ops : Array Oper} {rest : List Oper} {o : Oper} {a : Act} {w w' : World} {Q : Exit → Act → World → Prop} (hgd : o.guard = none) {ty : TypeId} {x y : Operand} (ho : o.op = .store ty x y) {p v : Value} (hx : a.eval x = p) (hy : a.eval y = v) (h : (Instr.storeAt ty p v).run P w = .ok () w')
    (k : wpList P ops Q rest (a.put o.dst undef) w') : wpList P ops Q (o :: rest) a w :=
  wpList_plain hgd fun K hK => by
    unfold Oper.wp
    rw [run_op_store ho hx hy h]
    exact hK _ _ k
theorem eqItems_u8 (d : Nat) (w : World) (m : List UInt8) : ∀ (is : List Nat), (∀ i ∈ is, i < 32) → (Op.eqItems (d + 1) 5 1 (macA m) (macA m) is).run Tryd.prog w = .ok true w
  | [], _ => by simp [Op.eqItems]
  | i :: is, h => by
    have hp : (part 5 (macA m) (i * 1)).run Tryd.prog w = .ok (mb m i) w := by
      rw [Nat.mul_one]
      unfold part
      have ha : (isAgg 5).run Tryd.prog w = .ok false w := by
        unfold isAgg
        rw [Sem.run_bind, run_underlying Tryd.underlying5 w]
        rfl
      rw [Sem.run_bind, ha]
      simp [macA_at m i (h i (by simp))]
    have hq : (Op.equalIn (d + 1) 5 (mb m i) (mb m i)).run Tryd.prog w = .ok true w := by
      unfold mb
      rw [run_equalIn_int w d 5 _ _ _ _ Tryd.underlying5]
      simp
    simp only [Op.eqItems, Sem.run_bind, hp, hq, Result.andThen_ok]
    have := eqItems_u8 d w m is (fun j hj => h j (by simp [hj]))
    simpa using this
theorem eql_mac (w : World) (m : List UInt8) : (binOp .eql 25 (.agg (macA m)) (.agg (macA m))).run Tryd.prog w = .ok (.bool true) w := by
  simp only [binOp]
  have h := run_equalIn_array w 9999 (macA m) (macA m) Tryd.underlying25 (i := (Tryd.prog.info? 5).get (by kernel_rfl)) (by kernel_rfl)
  have hc : Tryd.prog.cellsOf 5 = 1 := by kernel_rfl
  rw [hc] at h
  have h2 := eqItems_u8 9998 w m (List.range 32) (fun i hi => List.mem_range.1 hi)
  simp [Op.equal, Op.maxDepth, h, h2]
end Go.Proofs.YtjcpgjnogcmalaaDoor

/-! Boxes: stored whole, read by their owner alone. -/
namespace Go.Proofs.YtjcpgjnogcmalaaDoor
set_option linter.unusedVariables false
set_option linter.unusedSimpArgs false
open Go.RowKit
theorem Exc.blk {lo hi : Nat} {w w' : World} {g : Nat} {t : TypeId} {cs : Array Value} (h : Exc lo hi w w') (hb : Blk w g t cs) (hg : g < lo ∨ hi ≤ g) : Blk w' g t cs := (h.block g hb.lt hg).trans hb
theorem only_sl {α : Type} {d : Rd α} {w1 w2 : World} {lo hi : Nat} {A : Option Addr} {n : Nat} {l : List α} (h : d.Sl (only w1 lo hi) A n l) (hE : Ext w1 w2) (hh : hi ≤ w1.heap.size) : d.Sl (only w2 lo hi) A n l := by
  rw [only_ext hE hh]; exact h
theorem only_slx {α : Type} {d : Rd α} {w1 w2 : World} {l h lo hi : Nat} {A : Option Addr} {n : Nat} {xs : List α} (hs : d.Sl (only w1 l h) A n xs) (hX : Exc lo hi w1 w2) (hh : h ≤ w1.heap.size) (hd : h ≤ lo ∨ hi ≤ l) : d.Sl (only w2 l h) A n xs := by
  rw [hX.only hh hd]; exact hs
theorem box_row (w : World) (T : TypeId) (Z C : Array Value) (hs : Z.size = C.size) (hi : (Tryd.prog.info? T).map (·.size) = some C.size) (h1 : C.all (·.oneCell') = true) : ∃ w', (Instr.storeAt T (.pointer (some ⟨w.heap.size, 0, none⟩)) (.agg C)).run Tryd.prog (w.alloc (.cells Z T)) = .ok () w' ∧ Blk w' w.heap.size T C ∧ Ext w w' := by
  obtain ⟨w', hr, hB, hX⟩ := store_part (Blk.new w T Z) 0 C [] Z.toList [] (by simp) rfl (by simpa using hs) T hi h1
  refine ⟨w', hr, by simpa using hB, ?_⟩
  exact Exc.ext (Ext.alloc (Ext.refl _) _) hX (Nat.le_refl _)
theorem set_exc (w : World) (h i : Nat) (v : Value) : Exc h (h + 1) w (w.setCell ⟨h, i, none⟩ v) := Exc.setCell (p := ⟨h, i, none⟩) (Nat.le_refl _) (Nat.lt_succ_self _) v
theorem over_row {w : World} {g : Nat} {T : TypeId} {Z C : Array Value} (B : Blk w g T Z) (hs : Z.size = C.size) (hi : (Tryd.prog.info? T).map (·.size) = some C.size) (h1 : C.all (·.oneCell') = true) : ∃ w', (Instr.storeAt T (.pointer (some ⟨g, 0, none⟩)) (.agg C)).run Tryd.prog w = .ok () w' ∧ Blk w' g T C ∧ Exc g (g + 1) w w' := by
  obtain ⟨w', hr, hB, hX⟩ := store_part B 0 C [] Z.toList [] (by simp) rfl (by simpa using hs) T hi h1
  exact ⟨w', hr, by simpa using hB, hX⟩
theorem results_row_tmp {fn : Func} {p u : Tmp} {ty : TypeId} (h : fn.results = #[.cell p ty, .tmp u]) (tmps : Array Value) (w : World) (g : Nat) (t : TypeId) (cs : Array Value) (fr : Nat × Nat) (d : TypeDesc)
    (hp : tmps.getD p undef = .pointer (some ⟨g, 0, none⟩)) (hg : w.heap[g]? = some (.cells cs t fr))
    (hu : Tryd.prog.underlying ty = some d) (hd : d.isRow = true) (hi : (Tryd.prog.info? ty).map (·.size) = some cs.size) {v : Value} (hv : tmps.getD u undef = v) :
    (results fn tmps).run Tryd.prog w = .ok (.tuple #[.agg cs, v]) w := by
  have hp' : tmps[p]?.getD undef = .pointer (some ⟨g, 0, none⟩) := by simpa using hp
  have hv' : tmps[u]?.getD undef = v := by simpa using hv
  have hl := run_loadVar_mid (P := Tryd.prog) w g 0 ty cs.toList d (fun j v hv => by rw [Nat.zero_add, cell_of_row w g j cs t fr hg]; simpa using hv) hu hd (by rw [Array.length_toList]; exact hi)
  simp only [Array.toArray_toList] at hl
  simp [results, h, hp', hv', asAddr, hl]
theorem below_grown {B base : Nat} {a wr w' : World} {e : TypeId} {size : Nat} {v : Value} {n : Nat} {xs : List Value} (h : Below B a wr) (hB : B ≤ wr.heap.size) (hown : wr.ownsRow base e size v n xs) (hg : wr.grownBy w' v.ownBlock) (hb : B ≤ base) : Below B a w' :=
  Below.grown h hg hB fun k hk => Nat.le_trans hb (hown.lt k hk).1
theorem own_exc {w w' : World} {base lo hi : Nat} {e : TypeId} {size : Nat} {v : Value} {n : Nat} {xs : List Value} (h : w.ownsRow base e size v n xs) (hX : Exc lo hi w w') (hb : hi ≤ base) : w'.ownsRow base e size v n xs := by
  obtain ⟨hl, h⟩ := h
  refine ⟨hl, h.imp id ?_⟩
  rintro ⟨g, cap, cur, h1, h2, h3, h4⟩
  exact ⟨g, cap, cur, h1, h2, (hX.block g (Array.getElem?_eq_some_iff.1 h3).1 (.inr (by omega))).trans h3, h4⟩
theorem own_val {w : World} {base : Nat} {e : TypeId} {size : Nat} {v : Value} {n : Nat} {xs : List Value} (h : w.ownsRow base e size v n xs) : ∃ A c, v = .slice A n c := by
  obtain ⟨_, ⟨rfl, rfl⟩ | ⟨g, cap, cur, rfl, _⟩⟩ := h
  · exact ⟨_, _, rfl⟩
  · exact ⟨_, _, rfl⟩
theorem own_set {w : World} {base : Nat} {e : TypeId} {size : Nat} {v : Value} {n : Nat} {xs : List Value} (h : w.ownsRow base e size v n xs) {p : Addr} (hp : p.block < base) (u : Value) : (w.setCell p u).ownsRow base e size v n xs :=
  own_exc h (Exc.setCell (lo := p.block) (Nat.le_refl _) (Nat.lt_succ_self _) u) hp
end Go.Proofs.YtjcpgjnogcmalaaDoor

/-! Lists of grants and of entries: elements as rows of cells; held against one another, copied, written over. -/
namespace Go.Proofs.YtjcpgjnogcmalaaDoor
set_option linter.unusedVariables false
set_option linter.unusedSimpArgs false
open Go.RowKit
theorem eql_gr (w : World) (g : Grant) : (binOp .eql 35 (.agg (grA g)) (.agg (grA g))).run Tryd.prog w = .ok (.bool true) w := by
  unfold grA
  go_simp
theorem equalIn_mac (w : World) (d : Nat) (m : List UInt8) : (Op.equalIn (d + 2) 25 (.agg (macA m)) (.agg (macA m))).run Tryd.prog w = .ok true w := by
  have h := run_equalIn_array w (d + 1) (macA m) (macA m) Tryd.underlying25 (i := (Tryd.prog.info? 5).get (by kernel_rfl)) (by kernel_rfl)
  have hc : Tryd.prog.cellsOf 5 = 1 := by kernel_rfl
  rw [hc, eqItems_u8 d w m (List.range 32) (fun i hi => List.mem_range.1 hi)] at h
  exact h
def rdGr : Rd Grant := (Rd.pair (Rd.int .i64) (Rd.pair Rd.str (Rd.pair Rd.bool (Rd.int .i64)))).iso fun x => (x.r, x.p, x.x, x.u)
theorem gr_cells {w : World} {x : Grant} {cs : List Value} (h : rdGr.K w x cs) : cs = (grA x).toList := by
  obtain ⟨_, _, rfl, rfl, _, _, rfl, rfl, _, _, rfl, rfl, rfl⟩ := h
  rfl
theorem gr_K (w : World) (x : Grant) : rdGr.K w x (grA x).toList := ⟨_, _, rfl, rfl, _, _, rfl, rfl, _, _, rfl, rfl, rfl⟩
theorem arr_mac {w : World} {m : List UInt8} {cs : List Value} (h : (Rd.arr 32 Rd.u8).K w m cs) : cs = (macA m).toList ∧ m.length = 32 := by
  obtain ⟨h1, h2, h3⟩ := h
  have h2 : cs.length = 32 := h2
  refine ⟨?_, h1⟩
  apply List.ext_getElem?
  intro i
  by_cases hi : i < 32
  · have h4 : (cs.drop (i * 1)).take 1 = [.int .u8 (m[i]'(by omega)).toNat] := h3 i (by omega)
    have h5 : cs[i]? = some (.int .u8 (m[i]'(by omega)).toNat) := by
      have := congrArg (fun l : List Value => l[0]?) h4
      simpa [List.getElem?_take, List.getElem?_drop] using this
    rw [h5, Array.getElem?_toList, macA_at m i hi]
    unfold mb
    rw [List.getD_eq_getElem?_getD, List.getElem?_eq_getElem (by omega)]
    rfl
  · rw [List.getElem?_eq_none (by omega), Array.getElem?_toList, Array.getElem?_eq_none (by rw [macA_size]; omega)]
theorem mac_arr (w : World) (m : List UInt8) (h : m.length = 32) : (Rd.arr 32 Rd.u8).K w m (macA m).toList := by
  refine ⟨h, rfl, fun i hi => ?_⟩
  show ((macA m).toList.drop (i * 1)).take 1 = [.int .u8 m[i].toNat]
  have h4 := macA_at m i (by omega)
  rw [← Array.getElem?_toList] at h4
  obtain ⟨h5, h6⟩ := List.getElem?_eq_some_iff.1 h4
  rw [Nat.mul_one, List.drop_eq_getElem_cons h5, h6]
  unfold mb
  rw [List.getD_eq_getElem?_getD, List.getElem?_eq_getElem (by omega)]
  rfl
def rdEn : Rd Ent := (Rd.pair (Rd.int .i64) (Rd.pair (Rd.int .i64) (Rd.pair (Rd.int .i64) (Rd.pair (Rd.int .i64) (Rd.pair (Rd.int .i64) (Rd.pair Rd.str (Rd.pair Rd.str (Rd.arr 32 Rd.u8)))))))).iso fun x => (x.no, x.clock, x.kind, x.code, x.id, x.st, x.su, x.sum)
theorem en_cells {w : World} {x : Ent} {cs : List Value} (h : rdEn.K w x cs) : cs = (enA x).toList := by
  obtain ⟨_, _, rfl, rfl, _, _, rfl, rfl, _, _, rfl, rfl, _, _, rfl, rfl, _, _, rfl, rfl, _, _, rfl, rfl, _, _, rfl, rfl, h⟩ := h
  rw [(arr_mac h).1]
  rfl
theorem en_sum {w : World} {x : Ent} {cs : List Value} (h : rdEn.K w x cs) : x.sum.length = 32 := by
  obtain ⟨_, _, rfl, rfl, _, _, rfl, rfl, _, _, rfl, rfl, _, _, rfl, rfl, _, _, rfl, rfl, _, _, rfl, rfl, _, _, rfl, rfl, h⟩ := h
  exact (arr_mac h).2
theorem en_K (w : World) (x : Ent) (h : x.sum.length = 32) : rdEn.K w x (enA x).toList := ⟨_, _, rfl, rfl, _, _, rfl, rfl, _, _, rfl, rfl, _, _, rfl, rfl, _, _, rfl, rfl, _, _, rfl, rfl, _, _, rfl, rfl, mac_arr w x.sum h⟩
theorem el_addr {α : Type} {d : Rd α} {w : World} {A : Option Addr} {n : Nat} {xs : List α} (h : d.Sl w A n xs) (k : Nat) (hk : k < n) : ∃ b o, A = some ⟨b, o, none⟩ := by
  obtain ⟨b, o, cs, e, _⟩ := h.get k hk
  exact ⟨b, o, e⟩
/-- Element k of a slice, loaded. -/
theorem el_load {α : Type} {d : Rd α} {enc : α → Array Value} (hK : ∀ {w x cs}, d.K w x cs → cs = (enc x).toList) {w : World} {b o : Nat} {n : Nat} {xs : List α} (h : d.Sl w (some ⟨b, o, none⟩) n xs) (k : Nat) (x : α) (hx : xs[k]? = some x) (ty : TypeId) (t : TypeDesc)
    (hu : Tryd.prog.underlying ty = some t) (hd : t.isRow = true) (hi : (Tryd.prog.info? ty).map (·.size) = some d.sz) :
    (Instr.loadAt ty (.pointer (some ⟨b, o + k * d.sz, none⟩))).run Tryd.prog w = .ok (.agg (enc x)) w := by
  obtain ⟨hk, hx⟩ := List.getElem?_eq_some_iff.1 hx
  obtain ⟨b', o', cs, e, hk', hc⟩ := h.get k (by rw [← h.1]; exact hk)
  cases e
  rw [hx] at hk'
  have hl := d.len hk'
  have hcs := hK hk'
  have := run_loadAt_mid (P := Tryd.prog) w b (o + k * d.sz) ty cs t hc hu hd (by rw [hi, hl])
  rw [this, hcs]
theorem run_build1 (w : World) (t e : TypeId) (C : Array Value) (ie : TypeInfo) (z : Value) (hu : Tryd.prog.underlying t = some (.slice e)) (hie : Tryd.prog.info? e = some ie) (hz : ie.zero = some z) (hs : ie.size = C.size) (h0 : 0 < C.size) (hC : C.size ≤ 1000) :
    (Instr.buildSlice t 1 #[(0, .agg C)]).run Tryd.prog w = .ok (.slice (some ⟨w.heap.size, 0, none⟩) 1 1) (w.alloc (.cells C e)) := by
  refine run_buildSlice w t e 1 _ C ie z hu hie hz (by rw [hs]; omega) (by rw [hs]; omega) ?_
  have h := Great.fill_whole (s := ie.size) (by omega) [.agg C] ((Array.range (1 * ie.size)).map (z.cells[· % z.cells.size]!)) (fun v hv => by
    simp only [List.mem_singleton] at hv
    subst hv
    simp [Value.cells, hs]) (by simp)
  simpa [Value.cells] using h
theorem fold_all {Z C : Array Value} {n : Nat} (h0 : 0 < n) (hz : Z.size = n) (hc : C.size = n) : Array.foldl (fun (cs : Array Value) (x : Value × Nat) => cs.setIfInBounds x.snd x.fst) Z C.zipIdx 0 n = C := by
  have h := Great.fill_whole (s := n) h0 [.agg C] Z (fun v hv => by
    simp only [List.mem_singleton] at hv
    subst hv
    exact hc) (by simp [hz])
  simp [Instr.fill, Value.cells, hz, hc] at h
  exact h
/-- Cells that are one cell each. -/
theorem one_gr (x : Grant) : ∀ u ∈ (grA x).toList, u.oneCell' = true := by
  intro u hu
  simp only [grA, List.mem_cons, List.not_mem_nil, or_false] at hu
  rcases hu with rfl | rfl | rfl | rfl <;> rfl
theorem one_mac (m : List UInt8) : (macA m).all (·.oneCell') = true := by simp [macA, mb, Value.oneCell']
theorem one_enA (x : Ent) : (enA x).all (·.oneCell') = true := by simp [enA, mb, Value.oneCell']
theorem one_en (x : Ent) : ∀ u ∈ (enA x).toList, u.oneCell' = true := fun u hu => Array.all_eq_true_iff_forall_mem.1 (one_enA x) u (by simpa using hu)
theorem new_cellsA (w : World) (t : TypeId) (cs : Array Value) (j : Nat) (u : Value) (h : cs.toList[j]? = some u) : (w.alloc (.cells cs t)).cell? ((⟨w.heap.size, 0, none⟩ : Addr).add j) = some u := new_cells w t cs j u h
theorem own_onlyM {α : Type} {d : Rd α} {f : α → Array Value} (hf : ∀ x, (f x).size = d.sz) {lo hi base : Nat} {w : World} {e : TypeId} {v : Value} {l : List α} (hK : ∀ x, x ∈ l → ∀ w, d.K w x (f x).toList)
    (h : w.ownsRow base e d.sz v l.length (l.flatMap fun x => (f x).toList)) (hb : lo ≤ base) (hh : w.heap.size ≤ hi) : ∃ A c, v = .slice A l.length c ∧ l.length ≤ c ∧ c ≤ maxLen ∧ d.Sl (only w lo hi) A l.length l := by
  have hf : ∀ x, ((fun x => (f x).toList) x).length = d.sz := fun x => by simp [hf x]
  obtain ⟨hl, ⟨rfl, hn⟩ | ⟨g, cap, cur, rfl, hbg, hc, hle, hm, hs, ht⟩⟩ := h
  · have hl0 : l = [] := List.eq_nil_of_length_eq_zero hn
    subst hl0
    exact ⟨none, 0, rfl, Nat.le_refl _, by decide, Rd.Sl.none d _ none⟩
  · have hg : g < hi := Nat.lt_of_lt_of_le (Array.getElem?_eq_some_iff.1 hc).1 hh
    refine ⟨some ⟨g, 0, none⟩, cap, rfl, hle, hm, rfl, fun _ => ⟨g, 0, rfl, fun i hi' => ⟨(f l[i]).toList, hK _ (List.getElem_mem _) _, fun j u hu => ?_⟩⟩⟩
    have hj : j < d.sz := by
      have h1 := (List.getElem?_eq_some_iff.1 hu).1
      have h2 := hf l[i]
      simp only at h2
      omega
    have hlt : i * d.sz + j < l.length * d.sz := by
      have := Nat.mul_le_mul_right d.sz (show i + 1 ≤ l.length by omega)
      rw [Nat.add_mul] at this; omega
    rw [← flat_get hf l i j hi' hj, ← ht, List.getElem?_take_of_lt hlt] at hu
    rw [show 0 + i * d.sz + j = i * d.sz + j by omega]
    exact cell_only hc (Nat.le_trans hb hbg) hg (by simpa using hu)
theorem sl_sum {w : World} {A : Option Addr} {n : Nat} {xs : List Ent} (h : rdEn.Sl w A n xs) (x : Ent) (hx : x ∈ xs) : x.sum.length = 32 := by
  obtain ⟨i, hi, rfl⟩ := List.mem_iff_getElem.1 hx
  obtain ⟨b, o, cs, e, hk, hc⟩ := h.get i (by rw [← h.1]; exact hi)
  exact en_sum hk
theorem flat_one {α : Type} (f : α → Array Value) (l : List α) (k : Nat) (x : α) (h : l[k]? = some x) : (l.take (k + 1)).flatMap (fun x => (f x).toList) = (l.take k).flatMap (fun x => (f x).toList) ++ (f x).toList := by
  obtain ⟨hk, rfl⟩ := List.getElem?_eq_some_iff.1 h
  rw [List.take_succ_eq_append_getElem hk, List.flatMap_append]
  simp
set_option maxHeartbeats 1000000 in
set_option maxRecDepth 100000 in
theorem sameGrants_any (w : World) (A : Option Addr) (c : Nat) (xs : List Grant) (hS : rdGr.Sl w A xs.length xs) (hc : xs.length ≤ c) (hn : xs.length ≤ 1000000) (A2 : Option Addr) (c2 : Nat) (hS2 : rdGr.Sl w A2 xs.length xs) (hc2 : xs.length ≤ c2) :
    Calls Tryd.prog 28 #[.slice A xs.length c, .slice A2 xs.length c2] w fun e w' => e = .returned (.bool true) ∧ Ext w w' := by
  obtain ⟨n, hxn⟩ : ∃ n, xs.length = n := ⟨_, rfl⟩
  rw [hxn] at hS hn hc hS2 hc2 ⊢
  go_enter Tryd.func28, Tryd.ntmps28
  go_wp2_with fail
  go_loopw [5] (fun i wr => ∃ k : Nat, k ≤ n ∧ i = .int .i64 k ∧ Ext w wr) (fun i _ => n - (intOf i).toNat)
  case atStart => exact ⟨0, by omega, rfl, Ext.refl _⟩
  case round =>
    obtain ⟨k, hkn, rfl, hwr⟩ := hrel
    by_cases hlt : k < n
    · obtain ⟨b, o, rfl⟩ := el_addr hS k hlt
      obtain ⟨b2, o2, rfl⟩ := el_addr hS2 k hlt
      obtain ⟨x, hx⟩ : ∃ x, xs[k]? = some x := ⟨_, List.getElem?_eq_getElem (by omega)⟩
      have rx := fun (w' : World) (h : Ext wr w') => el_load gr_cells (hS.ext (hwr.trans h)) k x hx 35 _ Tryd.underlying35 rfl (by kernel_rfl)
      have ry := fun (w' : World) (h : Ext wr w') => el_load gr_cells (hS2.ext (hwr.trans h)) k x hx 35 _ Tryd.underlying35 rfl (by kernel_rfl)
      clear hx
      have re := fun (w' : World) => eql_gr w' x
      have hY : Ext wr wr := Ext.refl wr
      generalize grA x = C at rx ry re
      simp only [show rdGr.sz = 4 from rfl, show rdEn.sz = 39 from rfl] at rx ry
      clear hS hS2
      go_upto_region 6 with fail
      refine st_start (fun _ w' => Ext wr w') (fun _ => false) (by kernel_rfl) (by kernel_rfl) (by (repeat (first | assumption | exact Ext.refl _ | refine Ext.drew ?_ | refine Ext.alloc ?_ _ | refine Ext.drewN ?_ _ | refine Ext.trans ?_ (by assumption)))) ?_
      iterate 3 (first | (refine st_off (a' := ?_) rfl (by rfl) rfl ?_ ?_; rotate_left 1; (· simp only [Act.put, List.setIfInBounds_toArray, List.set_cons_zero, List.set_cons_succ]; rfl)) | (refine st_y (v := ?_) (a' := ?_) rfl (by rfl) rfl (fun k w' hw' => ?_) ?_ ?_; rotate_left 2; (· go_simp; with_reducible rfl); (· simp only [Act.put, List.setIfInBounds_toArray, List.set_cons_zero, List.set_cons_succ]; rfl)))
      refine st_y (v := ?_) (a' := ?_) rfl (by rfl) rfl (fun kk w' hw' => ?_) ?_ ?_
      rotate_left 2
      · (refine (run_op_load rfl ?_ (rx w' hw')).trans ?_; (· rfl); (· with_reducible rfl))
      · simp only [Act.put, List.setIfInBounds_toArray, List.set_cons_zero, List.set_cons_succ]; rfl
      iterate 3 (first | (refine st_off (a' := ?_) rfl (by rfl) rfl ?_ ?_; rotate_left 1; (· simp only [Act.put, List.setIfInBounds_toArray, List.set_cons_zero, List.set_cons_succ]; rfl)) | (refine st_y (v := ?_) (a' := ?_) rfl (by rfl) rfl (fun k w' hw' => ?_) ?_ ?_; rotate_left 2; (· go_simp; with_reducible rfl); (· simp only [Act.put, List.setIfInBounds_toArray, List.set_cons_zero, List.set_cons_succ]; rfl)))
      refine st_y (v := ?_) (a' := ?_) rfl (by rfl) rfl (fun kk w' hw' => ?_) ?_ ?_
      rotate_left 2
      · (refine (run_op_load rfl ?_ (ry w' hw')).trans ?_; (· rfl); (· with_reducible rfl))
      · simp only [Act.put, List.setIfInBounds_toArray, List.set_cons_zero, List.set_cons_succ]; rfl
      iterate 2 (first | (refine st_off (a' := ?_) rfl (by rfl) rfl ?_ ?_; rotate_left 1; (· simp only [Act.put, List.setIfInBounds_toArray, List.set_cons_zero, List.set_cons_succ]; rfl)) | (refine st_y (v := ?_) (a' := ?_) rfl (by rfl) rfl (fun k w' hw' => ?_) ?_ ?_; rotate_left 2; (· go_simp; with_reducible rfl); (· simp only [Act.put, List.setIfInBounds_toArray, List.set_cons_zero, List.set_cons_succ]; rfl)))
      refine st_end ?_
      intro w1 hY1
      go_wp2_with fail
      go_roundw
      case rel => exact ⟨k + 1, by omega, by go_num, hwr.trans hY1⟩
      case measure => simp [intOf]; omega
    · obtain rfl : k = n := by omega
      go_wp2_with fail
      go_ret
      exact ⟨rfl, hwr⟩
theorem elt_Grants : Elt Tryd.prog 24 35 4 40 := Elt.mk' (z := (.agg #[.int .i64 0, .string ⟨#[]⟩, .bool false, .int .i64 0])) Tryd.underlying24 (by kernel_rfl) rfl (by decide)
set_option maxHeartbeats 1000000 in
set_option maxRecDepth 100000 in
theorem copyGrants_own (w : World) (A : Option Addr) (c : Nat) (xs : List Grant) (hS : rdGr.Sl w A xs.length xs) (hc : xs.length ≤ c) (hn : xs.length ≤ 1000000) :
    Calls Tryd.prog 43 #[.slice A xs.length c] w fun e w' => ∃ v, e = .returned v ∧ w'.ownsRow w.heap.size 35 4 v xs.length (xs.flatMap fun x => (grA x).toList) ∧ Ext w w' := by
  obtain ⟨n, hxn⟩ : ∃ n, xs.length = n := ⟨_, rfl⟩
  rw [hxn] at hS hn hc ⊢
  go_enter Tryd.func43, Tryd.ntmps43
  go_wp2_with fail
  go_loopw [3, 4] (fun s3 i wr => ∃ k : Nat, k ≤ n ∧ i = .int .i64 k ∧ wr.ownsRow w.heap.size 35 4 s3 k ((xs.take k).flatMap fun x => (grA x).toList) ∧ Ext w wr) (fun _ i _ => n - (intOf i).toNat)
  case atStart => exact ⟨0, by omega, rfl, World.ownsRow_nil _ _ _ _, Ext.refl _⟩
  case round =>
    obtain ⟨k, hkn, rfl, hown, hwr⟩ := hrel
    by_cases hlt : k < n
    · obtain ⟨b, o, rfl⟩ := el_addr hS k hlt
      obtain ⟨x, hx⟩ : ∃ x, xs[k]? = some x := ⟨_, List.getElem?_eq_getElem (by omega)⟩
      have rx := el_load gr_cells (hS.ext hwr) k x hx 35 _ Tryd.underlying35 rfl (by kernel_rfl)
      have hfl := flat_one grA xs k x hx
      have h1 := one_gr x
      have hsz : (grA x).size = 4 := rfl
      have hfo := fold_all (Z := Value.cells (.agg #[.int .i64 0, .string ⟨#[]⟩, .bool false, .int .i64 0])) (n := 4) (by decide) rfl hsz
      simp only [Value.cells] at hfo
      generalize grA x = C at rx hfl h1 hfo hsz
      simp only [show rdGr.sz = 4 from rfl] at rx
      clear hS hx
      go_wp2_with (first | (refine wpList_load_by rfl rfl ?_ rx ?_; (· rfl)) | (at_builtin; refine wpList_append_cells (news := C.toList) rfl elt_Grants (.tmp 11) (.tmp 16) rfl (hown.alloc _) rfl rfl ?c0 ?c1 ?c2 ?c3 ?c4 ?_))
      case c0 => exact ⟨by simp [hsz], (fun h => by cases h), fun ad h j u hu => (by cases h; exact new_cells wr _ C j u hu)⟩
      case c1 => exact h1
      case c2 => unfold maxLen; omega
      case c3 => omega
      case c4 => have := hwr.le; simp; omega
      intro v' w1 hown' hgrow
      have hE := grown_ext (hwr.alloc _) (hown.alloc _) hgrow
      rw [← hfl] at hown'
      clear hown hgrow rx hfl h1 hfo
      go_wp2_with fail
      go_roundw
      case rel => exact ⟨k + 1, by omega, by go_num, hown', hE⟩
      case measure => simp [intOf]; omega
    · obtain rfl : k = n := by omega
      rw [← hxn, List.take_length] at hown
      rw [hxn] at hown
      go_wp2_with fail
      go_ret
      exact ⟨_, rfl, hown, hwr⟩
theorem copyGrants_any (w : World) (A : Option Addr) (c : Nat) (xs : List Grant) (hS : rdGr.Sl w A xs.length xs) (hc : xs.length ≤ c) (hn : xs.length ≤ 1000000) :
    Calls Tryd.prog 43 #[.slice A xs.length c] w fun e w' => ∃ A' c', e = .returned (.slice A' xs.length c') ∧ xs.length ≤ c' ∧ rdGr.Sl (only w' w.heap.size w'.heap.size) A' xs.length xs ∧ Ext w w' := by
  refine (copyGrants_own w A c xs hS hc hn).mono ?_
  rintro e w' ⟨v, rfl, hown, hE⟩
  obtain ⟨A', c', rfl, h1, -, h2⟩ := own_onlyM (d := rdGr) (f := grA) (fun _ => rfl) (lo := w.heap.size) (hi := w'.heap.size) (fun x _ w => gr_K w x) hown (Nat.le_refl _) (Nat.le_refl _)
  exact ⟨A', c', rfl, h1, h2, hE⟩
end Go.Proofs.YtjcpgjnogcmalaaDoor

/-! Lists of grants and of entries: written over. -/
namespace Go.Proofs.YtjcpgjnogcmalaaDoor
set_option linter.unusedVariables false
set_option linter.unusedSimpArgs false
open Go.RowKit
/-- n rows of sz cells from A on lie in the blocks from lo on, below hi, and may be written. -/
def RowsAt (w : World) (lo hi : Nat) (A : Option Addr) (n sz : Nat) : Prop := ∀ k, k < n → ∃ b o, A = some ⟨b, o, none⟩ ∧ ∀ j, j < sz → ∃ v, (only w lo hi).cell? ⟨b, o + k * sz + j, none⟩ = some v
theorem rowsAt_of {α : Type} {d : Rd α} {w : World} {lo hi : Nat} {A : Option Addr} {n : Nat} {xs : List α} (h : d.Sl (only w lo hi) A n xs) : RowsAt w lo hi A n d.sz := fun k hk => by
  obtain ⟨b, o, cs, e, hK, hc⟩ := h.get k hk
  refine ⟨b, o, e, fun j hj => ?_⟩
  have hl := d.len hK
  exact ⟨_, hc j _ (List.getElem?_eq_getElem (by omega))⟩
theorem There.setCells {lo hi : Nat} {w0 : World} (b : Nat) : ∀ (vs : List Value) (o : Nat) (w : World), There lo hi w0 w → There lo hi w0 (w.setCells b o vs)
  | [], _, _, h => h
  | v :: vs, o, w, h => by
    rw [World.setCells]
    exact There.setCells b vs (o + 1) _ (h.trans (There.set _ _))
def markG (k : Nat) : Grant := ⟨-9, ⟨#[]⟩, false, 900 + k⟩
def markE (k : Nat) : Ent := ⟨-9 - k, 0, 0, 0, 0, ⟨#[]⟩, ⟨#[]⟩, zMac⟩
end Go.Proofs.YtjcpgjnogcmalaaDoor

/-! Tokens: held against one another, copied. -/
namespace Go.Proofs.YtjcpgjnogcmalaaDoor
set_option linter.unusedVariables false
set_option linter.unusedSimpArgs false
open Go.RowKit
/-- What a slice of grants, of rows of bytes reads ars. -/
def GsV (w : World) (l : List Grant) (a : Value) : Prop := ∃ A c, a = .slice A l.length c ∧ l.length ≤ c ∧ rdGr.Sl w A l.length l
def BsV (w : World) (l : List (List UInt8)) (a : Value) : Prop := ∃ A c, a = .slice A l.length c ∧ l.length ≤ c ∧ rdB.Sl w A l.length l
theorem GsV.mono {w w' : World} {l : List Grant} {a : Value} (h : GsV w l a) (k : Cle w w') : GsV w' l a := by
  obtain ⟨A, c, e, h1, h2⟩ := h
  exact ⟨A, c, e, h1, h2.mono k⟩
theorem BsV.mono {w w' : World} {l : List (List UInt8)} {a : Value} (h : BsV w l a) (k : Cle w w') : BsV w' l a := by
  obtain ⟨A, c, e, h1, h2⟩ := h
  exact ⟨A, c, e, h1, h2.mono k⟩
theorem GsV.ext {w w' : World} {l : List Grant} {a : Value} (h : GsV w l a) (k : Ext w w') : GsV w' l a := h.mono k.cle
theorem BsV.ext {w w' : World} {l : List (List UInt8)} {a : Value} (h : BsV w l a) (k : Ext w w') : BsV w' l a := h.mono k.cle
theorem GsV.nil (w : World) : GsV w [] (.slice none 0 0) := ⟨none, 0, rfl, Nat.le_refl _, Rd.Sl.none _ _ none⟩
theorem BsV.nil (w : World) : BsV w [] (.slice none 0 0) := ⟨none, 0, rfl, Nat.le_refl _, Rd.Sl.none _ _ none⟩
theorem oc_int (k : IntKind) (x : Int) : (Value.int k x).oneCell' = true := rfl
theorem oc_str (x : ByteArray) : (Value.string x).oneCell' = true := rfl
theorem oc_bool (x : Bool) : (Value.bool x).oneCell' = true := rfl
theorem one_tok (t : Tok) (a : Value) (h : a.oneCell' = true) : (tokA t a).all (·.oneCell') = true := by simp [tokA, mb, oc_int, oc_str, h]
theorem fin_own {w W w1 w9 : World} (hE : Ext w W) (hE1 : Ext W w1) (hX : Exc w.heap.size W.heap.size w1 w9) : Ext w w9 ∧ Cle (only w1 W.heap.size w1.heap.size) (only w9 w.heap.size w9.heap.size) := by
  refine ⟨Exc.ext (hE.trans hE1) hX (Nat.le_refl _), ?_⟩
  have e : only w9 W.heap.size w1.heap.size = only w1 W.heap.size w1.heap.size := hX.only (Nat.le_refl _) (.inr (Nat.le_refl _))
  rw [← e]
  exact only_wide hE.le hX.size
/-- w with the blocks from l on, below h, blanked. -/
def gap (w : World) (l h : Nat) : World := { w with heap := Array.ofFn (n := w.heap.size) fun i => if l ≤ i.1 ∧ i.1 < h then .cells #[] 0 (0, 0) else w.heap[i.1] }
theorem gap_heap (w : World) (l h b : Nat) : (gap w l h).heap[b]? = if b < w.heap.size then some (if l ≤ b ∧ b < h then .cells #[] 0 (0, 0) else w.heap[b]?.getD (.cells #[] 0 (0, 0))) else none := by
  unfold gap
  simp only [Array.getElem?_ofFn]
  by_cases hb : b < w.heap.size
  · simp [hb]
  · simp [hb]
theorem gap_keep {w w' : World} {l h lo hi : Nat} (k : Exc l h w w') (hh : hi ≤ w.heap.size) : only (gap w' l h) lo hi = only (gap w l h) lo hi :=
  only_keep fun b h1 h2 => by
    have hs := k.size
    rw [gap_heap, gap_heap, if_pos (show b < w'.heap.size by omega), if_pos (show b < w.heap.size by omega)]
    by_cases hg : l ≤ b ∧ b < h
    · rw [if_pos hg, if_pos hg]
    · rw [if_neg hg, if_neg hg, k.block b (by omega) (by omega)]
theorem gap_cle (w : World) (l h lo hi : Nat) (hh : hi ≤ w.heap.size) : Cle (only (gap w l h) lo hi) (only w lo hi) := fun p v hv => by
  obtain ⟨a, b, hc, hf, cs, t, hb⟩ := only_cell hv
  have hs := only_spot hv
  obtain ⟨pb, po, ps⟩ := p
  obtain rfl : ps = none := hs
  have a : lo ≤ pb := a
  have b : pb < hi := b
  have hb0 : (gap w l h).heap[pb]? = some (.cells cs t (0, 0)) := hb
  have hc1 : cs[po]? = some v := by
    unfold World.cell? at hc
    rw [hb] at hc
    simpa using hc
  rw [gap_heap, if_pos (show pb < w.heap.size by omega)] at hb0
  by_cases hg : l ≤ pb ∧ pb < h
  · rw [if_pos hg] at hb0
    simp only [Option.some.injEq, Obj.cells.injEq] at hb0
    rw [← hb0.1] at hc1
    simp at hc1
  · rw [if_neg hg] at hb0
    have hlt : pb < w.heap.size := by omega
    rw [Array.getElem?_eq_getElem hlt] at hb0
    refine cell_only (w := w) (cs := cs) (t := t) ?_ a b hc1
    rw [Array.getElem?_eq_getElem hlt]
    simpa using hb0
theorem gap_off (w : World) (l h lo hi : Nat) (hh : hi ≤ w.heap.size) (hd : hi ≤ l ∨ h ≤ lo) : only (gap w l h) lo hi = only w lo hi :=
  only_keep fun b h1 h2 => by
    rw [gap_heap, if_pos (show b < w.heap.size by omega), if_neg (show ¬ (l ≤ b ∧ b < h) by omega), Array.getElem?_eq_getElem (by omega)]
    rfl
theorem kind_bytes {w w' : World} {lo hi : Nat} {A : Option Addr} {n : Nat} {l : List UInt8} (k : Kind w w') (h : Rd.u8.Sl (only w lo hi) A n l) : ∃ y : List UInt8, y.length = n ∧ Rd.u8.Sl (only w' lo hi) A n y := by
  rcases Nat.eq_zero_or_pos n with rfl | h0
  · exact ⟨[], rfl, rfl, fun h => absurd h (Nat.lt_irrefl 0)⟩
  · obtain ⟨b, o, e, hc⟩ := h.2 h0
    have hy : ∀ i : Fin n, ∃ y : UInt8, (only w' lo hi).cell? ⟨b, o + i.1, none⟩ = some (.int .u8 y.toNat) := fun i => by
      obtain ⟨cs, hK, hcell⟩ := hc i.1 (by rw [h.1]; exact i.2)
      have h1 := hcell 0 _ (by rw [show cs = [_] from hK]; rfl)
      obtain ⟨v', hv', ht⟩ := k.only h1
      rcases ht with rfl | ⟨_, y, _, rfl⟩
      · exact ⟨_, by simpa [Rd.u8] using hv'⟩
      · exact ⟨y, by simpa [Rd.u8] using hv'⟩
    obtain ⟨f, hf⟩ := Classical.axiomOfChoice hy
    refine ⟨List.ofFn f, by simp, by simp, fun _ => ⟨b, o, e, fun i hi => ⟨[_], rfl, fun j u hu => ?_⟩⟩⟩
    obtain ⟨rfl, rfl⟩ : j = 0 ∧ _ = u := by
      cases j with
      | zero => simp at hu; exact ⟨rfl, hu⟩
      | succ j => simp at hu
    have := hf ⟨i, by simpa using hi⟩
    simpa [Rd.u8] using this
set_option maxHeartbeats 1000000 in
set_option maxRecDepth 100000 in
theorem sameToken_any (w : World) (t : Tok) (a a' : Value) (h : GsV w t.gs a) (h' : GsV w t.gs a') (hn : t.gs.length ≤ 1000000) :
    Calls Tryd.prog 16 #[.agg (tokA t a), .agg (tokA t a')] w fun e w' => e = .returned (.bool true) ∧ Ext w w' := by
  obtain ⟨A, c, rfl, hc, hS⟩ := h
  obtain ⟨A', c', rfl, hc', hS'⟩ := h'
  obtain ⟨n, hln⟩ : ∃ n, t.gs.length = n := ⟨_, rfl⟩
  have hsg := fun (w' : World) (h : Ext w w') => sameGrants_any w' A c t.gs (hS.ext h) hc hn A' c' (hS'.ext h) hc'
  rw [hln] at hsg ⊢
  obtain ⟨W, hW, hE, bx, cx⟩ := box2 w (tokA t (.slice A n c)) (tokA t (.slice A' n c')) 27 27
  have B1 : Blk W w.heap.size 27 (tokA t (.slice A n c)) := by rw [hW]; exact (Blk.new _ _ _).alloc _
  have B2 : Blk W (w.heap.size + 1) 27 (tokA t (.slice A' n c')) := by rw [hW]; have := Blk.new (w.alloc (.cells (tokA t (.slice A n c)) 27)) 27 (tokA t (.slice A' n c')); simpa using this
  have x0 : W.cell? ⟨w.heap.size, 0, none⟩ = some (.string t.ten) := bx 0 _ rfl
  have y0 : W.cell? ⟨w.heap.size + 1, 0, none⟩ = some (.string t.ten) := cx 0 _ rfl
  have x1 : W.cell? ⟨w.heap.size, 1, none⟩ = some (.int .i64 t.id) := bx 1 _ rfl
  have y1 : W.cell? ⟨w.heap.size + 1, 1, none⟩ = some (.int .i64 t.id) := cx 1 _ rfl
  have x2 : W.cell? ⟨w.heap.size, 2, none⟩ = some (.slice A n c) := bx 2 _ rfl
  have y2 : W.cell? ⟨w.heap.size + 1, 2, none⟩ = some (.slice A' n c') := cx 2 _ rfl
  have l1 := load_part B1 3 (macA t.mac) [.string t.ten, .int .i64 t.id, .slice A n c] [] rfl rfl 25 _ Tryd.underlying25 rfl (by kernel_rfl)
  have l2 := load_part B2 3 (macA t.mac) [.string t.ten, .int .i64 t.id, .slice A' n c'] [] rfl rfl 25 _ Tryd.underlying25 rfl (by kernel_rfl)
  have em := fun (w' : World) => eql_mac w' t.mac
  generalize macA t.mac = M at l1 l2 em
  generalize tokA t (.slice A n c) = T1 at *
  generalize tokA t (.slice A' n c') = T2 at *
  clear bx cx hS hS' B1 B2
  go_enter Tryd.func16, Tryd.ntmps16
  go_upto_region 1 with fail
  rw [← hW]
  clear hW
  refine wp_region_lit ?_
  iterate 14 (first | (refine pl_off (a' := ?_) rfl (by rfl) ?_ ?_; rotate_left 1; (· simp only [Act.put, List.setIfInBounds_toArray, List.set_cons_zero, List.set_cons_succ]; rfl)) | (refine pl_y (v := ?_) (a' := ?_) rfl (by rfl) ?_ ?_ ?_; rotate_left 2; (· go_simp; with_reducible rfl); (· simp only [Act.put, List.setIfInBounds_toArray, List.set_cons_zero, List.set_cons_succ]; rfl)))
  refine pl_y (v := ?_) (a' := ?_) rfl (by rfl) ?_ ?_ ?_
  rotate_left 2
  · (refine (run_op_load rfl ?_ (l1)).trans ?_; (· rfl); (· with_reducible rfl))
  · simp only [Act.put, List.setIfInBounds_toArray, List.set_cons_zero, List.set_cons_succ]; rfl
  iterate 1 (first | (refine pl_off (a' := ?_) rfl (by rfl) ?_ ?_; rotate_left 1; (· simp only [Act.put, List.setIfInBounds_toArray, List.set_cons_zero, List.set_cons_succ]; rfl)) | (refine pl_y (v := ?_) (a' := ?_) rfl (by rfl) ?_ ?_ ?_; rotate_left 2; (· go_simp; with_reducible rfl); (· simp only [Act.put, List.setIfInBounds_toArray, List.set_cons_zero, List.set_cons_succ]; rfl)))
  refine pl_y (v := ?_) (a' := ?_) rfl (by rfl) ?_ ?_ ?_
  rotate_left 2
  · (refine (run_op_load rfl ?_ (l2)).trans ?_; (· rfl); (· with_reducible rfl))
  · simp only [Act.put, List.setIfInBounds_toArray, List.set_cons_zero, List.set_cons_succ]; rfl
  iterate 7 (first | (refine pl_off (a' := ?_) rfl (by rfl) ?_ ?_; rotate_left 1; (· simp only [Act.put, List.setIfInBounds_toArray, List.set_cons_zero, List.set_cons_succ]; rfl)) | (refine pl_y (v := ?_) (a' := ?_) rfl (by rfl) ?_ ?_ ?_; rotate_left 2; (· go_simp; with_reducible rfl); (· simp only [Act.put, List.setIfInBounds_toArray, List.set_cons_zero, List.set_cons_succ]; rfl)))
  refine pl_call (args := ?_) Tryd.func28 (by kernel_rfl) rfl (by rfl) rfl rfl ?_ ?_
  rotate_left 1
  · go_simp; with_reducible rfl
  (with_reducible refine (hsg W hE).mono ?_)
  rintro e w1 ⟨rfl, hY⟩
  refine ⟨_, _, rfl, (by simp only [Act.put, List.setIfInBounds_toArray, List.set_cons_zero, List.set_cons_succ]; rfl), ?_⟩
  iterate 2 (first | (refine pl_off (a' := ?_) rfl (by rfl) ?_ ?_; rotate_left 1; (· simp only [Act.put, List.setIfInBounds_toArray, List.set_cons_zero, List.set_cons_succ]; rfl)) | (refine pl_y (v := ?_) (a' := ?_) rfl (by rfl) ?_ ?_ ?_; rotate_left 2; (· go_simp; with_reducible rfl); (· simp only [Act.put, List.setIfInBounds_toArray, List.set_cons_zero, List.set_cons_succ]; rfl)))
  refine wpList_nil ?_
  go_wp2_with fail
  go_ret
  exact ⟨rfl, hE.trans hY⟩
set_option maxHeartbeats 1000000 in
set_option maxRecDepth 100000 in
theorem copyToken_any (w : World) (t : Tok) (a : Value) (h : GsV w t.gs a) (hn : t.gs.length ≤ 1000000) :
    Calls Tryd.prog 11 #[.agg (tokA t a)] w fun e w' => ∃ a', e = .returned (.agg (tokA t a')) ∧ GsV (only w' w.heap.size w'.heap.size) t.gs a' ∧ Ext w w' := by
  obtain ⟨A, c, rfl, hc, hS⟩ := h
  obtain ⟨W, hW, hE, bx, -⟩ := box2 w (tokA t (.slice A t.gs.length c)) #[.string ⟨#[]⟩, .int .i64 0, .slice none 0 0, .int .u8 0, .int .u8 0, .int .u8 0, .int .u8 0, .int .u8 0, .int .u8 0, .int .u8 0, .int .u8 0, .int .u8 0, .int .u8 0, .int .u8 0, .int .u8 0, .int .u8 0, .int .u8 0, .int .u8 0, .int .u8 0, .int .u8 0, .int .u8 0, .int .u8 0, .int .u8 0, .int .u8 0, .int .u8 0, .int .u8 0, .int .u8 0, .int .u8 0, .int .u8 0, .int .u8 0, .int .u8 0, .int .u8 0, .int .u8 0, .int .u8 0, .int .u8 0] 27 27
  have B1 : Blk W w.heap.size 27 (tokA t (.slice A t.gs.length c)) := by rw [hW]; exact (Blk.new _ _ _).alloc _
  have B2 : Blk W (w.heap.size + 1) 27 #[.string ⟨#[]⟩, .int .i64 0, .slice none 0 0, .int .u8 0, .int .u8 0, .int .u8 0, .int .u8 0, .int .u8 0, .int .u8 0, .int .u8 0, .int .u8 0, .int .u8 0, .int .u8 0, .int .u8 0, .int .u8 0, .int .u8 0, .int .u8 0, .int .u8 0, .int .u8 0, .int .u8 0, .int .u8 0, .int .u8 0, .int .u8 0, .int .u8 0, .int .u8 0, .int .u8 0, .int .u8 0, .int .u8 0, .int .u8 0, .int .u8 0, .int .u8 0, .int .u8 0, .int .u8 0, .int .u8 0, .int .u8 0] := by rw [hW]; have := Blk.new (w.alloc (.cells (tokA t (.slice A t.gs.length c)) 27)) 27 #[.string ⟨#[]⟩, .int .i64 0, .slice none 0 0, .int .u8 0, .int .u8 0, .int .u8 0, .int .u8 0, .int .u8 0, .int .u8 0, .int .u8 0, .int .u8 0, .int .u8 0, .int .u8 0, .int .u8 0, .int .u8 0, .int .u8 0, .int .u8 0, .int .u8 0, .int .u8 0, .int .u8 0, .int .u8 0, .int .u8 0, .int .u8 0, .int .u8 0, .int .u8 0, .int .u8 0, .int .u8 0, .int .u8 0, .int .u8 0, .int .u8 0, .int .u8 0, .int .u8 0, .int .u8 0, .int .u8 0, .int .u8 0]; simpa using this
  have hcp := copyGrants_any W A c t.gs (hS.ext hE) hc hn
  have x2 : W.cell? ⟨w.heap.size, 2, none⟩ = some (.slice A t.gs.length c) := bx 2 _ rfl
  have hWs0 : W.heap.size = w.heap.size + 2 := by rw [hW]; simp
  obtain ⟨n, hln⟩ : ∃ n, t.gs.length = n := ⟨_, rfl⟩
  rw [hln] at hcp x2 hW B1 ⊢
  have HW := Lib.hid hWs0
  have HL := Lib.hid hln
  clear bx hS hWs0 hln
  go_enter Tryd.func11, Tryd.ntmps11
  go_upto_region 1 with fail
  rw [← hW]
  clear hW
  go_wp2_with (first | (go_at_call 43; (with_reducible refine hcp.mono ?_); rintro e w1 ⟨A1, c1, rfl, h1c, h1S, hE1⟩; have D1 := B1.ext hE1; have f2 := D1.frozen 2; have c2 := D1.cell 2 (v := .slice A n c) rfl; have D2 := (B2.ext hE1).far (p := ⟨w.heap.size, 2, none⟩) (by simp) (.slice A1 n c1); have E1 : Blk (w1.setCell ⟨w.heap.size, 2, none⟩ (.slice A1 n c1)) w.heap.size 27 (tokA t (.slice A1 n c1)) := D1.set_ 2 _; have hl := load_whole E1 27 _ Tryd.underlying27 rfl (by kernel_rfl); obtain ⟨w3, hr, B3, hX3⟩ := store_part D2 0 (tokA t (.slice A1 n c1)) [] [.string ⟨#[]⟩, .int .i64 0, .slice none 0 0, .int .u8 0, .int .u8 0, .int .u8 0, .int .u8 0, .int .u8 0, .int .u8 0, .int .u8 0, .int .u8 0, .int .u8 0, .int .u8 0, .int .u8 0, .int .u8 0, .int .u8 0, .int .u8 0, .int .u8 0, .int .u8 0, .int .u8 0, .int .u8 0, .int .u8 0, .int .u8 0, .int .u8 0, .int .u8 0, .int .u8 0, .int .u8 0, .int .u8 0, .int .u8 0, .int .u8 0, .int .u8 0, .int .u8 0, .int .u8 0, .int .u8 0, .int .u8 0] [] rfl rfl rfl 27 (by kernel_rfl) (one_tok _ _ rfl); clear hcp x2) | (refine wpList_load_by rfl rfl ?_ hl ?_; (· rfl)) | (refine wpList_store_by rfl rfl ?_ ?_ hr ?_; (· rfl); (· rfl)))
  have B3 : Blk w3 (w.heap.size + 1) 27 (tokA t (.slice A1 n c1)) := by simpa using B3
  refine bodyPost_ret (v := .agg (tokA t (.slice A1 n c1))) (results_cell_row (P := Tryd.prog) (fn := Tryd.f11) rfl _ w3 (w.heap.size + 1) _ _ _ _ rfl B3 Tryd.underlying27 rfl (by kernel_rfl)) rfl ?_
  have hX : Exc w.heap.size W.heap.size w1 w3 := by
    rw [HW.out]
    exact (Exc.setCell (lo := w.heap.size) (hi := w.heap.size + 2) (p := ⟨w.heap.size, 2, none⟩) (Nat.le_refl _) (by show w.heap.size < w.heap.size + 2; omega) _).trans (hX3.wide (by omega) (by omega))
  have hfin := fin_own hE hE1 hX
  refine ⟨_, rfl, ⟨A1, c1, by rw [HL.out], by rw [HL.out]; exact h1c, ?_⟩, hfin.1⟩
  rw [HL.out]
  exact h1S.mono hfin.2
end Go.Proofs.YtjcpgjnogcmalaaDoor

/-! Commands: held against one another, copied. -/
namespace Go.Proofs.YtjcpgjnogcmalaaDoor
set_option linter.unusedVariables false
set_option linter.unusedSimpArgs false
open Go.RowKit
theorem one_cmd (c : Cmd) (a b : Value) (h : a.oneCell' = true) (h' : b.oneCell' = true) : (cmdA c a b).all (·.oneCell') = true := by simp [cmdA, mb, oc_int, oc_str, oc_bool, h, h']
end Go.Proofs.YtjcpgjnogcmalaaDoor

/-! Commands: written over; how great one is. -/
namespace Go.Proofs.YtjcpgjnogcmalaaDoor
set_option linter.unusedVariables false
set_option linter.unusedSimpArgs false
open Go.RowKit
/-- The grants and bodies of a command in the blocks from lo on, below hi, the grants in a part of its own. -/
def CmdIn (w : World) (lo hi : Nat) (c : Cmd) (a b : Value) : Prop := ∃ l h, lo ≤ l ∧ h ≤ hi ∧ GsV (only w l h) c.tok.gs a ∧ BsV (only (gap w l h) lo hi) c.bodies b
end Go.Proofs.YtjcpgjnogcmalaaDoor

/-! How great a command, a token is. -/
namespace Go.Proofs.YtjcpgjnogcmalaaDoor
set_option linter.unusedVariables false
set_option linter.unusedSimpArgs false
open Go.RowKit
structure TokSmall (t : Tok) : Prop where
  n : t.gs.length ≤ 40
  ten : t.ten.size ≤ 4096
  p : ∀ g ∈ t.gs, g.p.size ≤ 4096
structure CmdSmall (c : Cmd) (rows bytes : Nat) : Prop where
  n : c.tok.gs.length ≤ rows
  m : c.bodies.length ≤ rows
  all : allN c.bodies 0 ≤ bytes
  ten : c.tok.ten.size ≤ bytes
  st : c.st.size ≤ bytes
  su : c.su.size ≤ bytes
  p : c.gr.p.size ≤ bytes
theorem dec_false {a b : Nat} (h : decide ((a : Int) < (b : Int)) = false) : b ≤ a := by simp at h; omega
def BigP (w : World) (S : Prop) (e : Ending) (w' : World) : Prop := ∃ v, e = .returned (.bool v) ∧ (v = false → S) ∧ Ext w w'
theorem bigP_true {w w' : World} {S : Prop} (h : Ext w w') : BigP w S (.returned (.bool true)) w' := ⟨true, rfl, (fun h => by cases h), h⟩
theorem bigP_of {w w' : World} {S : Prop} {b v : Bool} (e : b = v) (hS : v = false → S) (h : Ext w w') : BigP w S (.returned (.bool b)) w' := ⟨v, by rw [e], hS, h⟩
end Go.Proofs.YtjcpgjnogcmalaaDoor

/-! Digests read: by the program's reader, by the document's. -/
namespace Go.Proofs.YtjcpgjnogcmalaaDoor
set_option linter.unusedVariables false
set_option linter.unusedSimpArgs false
open Go.RowKit
theorem run_op_copy {P : Program} {o : Oper} {ev : Operand → Value} {d s : Operand} {dT sT : TypeId} {w w' : World} {vd vs v : Value} (ho : o.op = .call { callee := .builtin .copy, args := #[d, s], argTypes := #[dT, sT] }) (hd : ev d = vd) (hs : ev s = vs) (h : (Builtin.copy_ #[dT, sT] o.type #[vd, vs]).run P w = .ok v w') :
    (execOp ev o).run P w = .ok (.value v) w' := by
  unfold execOp
  simp [ho, resolve, invoke, builtin, hd, hs, h, Result.andThen]
def SumP (lo g : Nat) (w : World) (s : St) (R : World → Nat → Nat → St → Prop) (e : Ending) (w' : World) : Prop := ∃ x s', sumS s = (x, s') ∧ x.length = 32 ∧ e = .returned (.agg (macA x)) ∧ R w' lo g s' ∧ Exc g (g + 1) w w'
theorem macA_zero : macA zMac = #[.int .u8 0, .int .u8 0, .int .u8 0, .int .u8 0, .int .u8 0, .int .u8 0, .int .u8 0, .int .u8 0, .int .u8 0, .int .u8 0, .int .u8 0, .int .u8 0, .int .u8 0, .int .u8 0, .int .u8 0, .int .u8 0, .int .u8 0, .int .u8 0, .int .u8 0, .int .u8 0, .int .u8 0, .int .u8 0, .int .u8 0, .int .u8 0, .int .u8 0, .int .u8 0, .int .u8 0, .int .u8 0, .int .u8 0, .int .u8 0, .int .u8 0, .int .u8 0] := rfl
theorem macA_cells (p : List UInt8) (h : p.length = 32) : (macA p).toList = p.flatMap encB := by
  apply List.ext_getElem?
  intro i
  by_cases hi : i < 32
  · rw [Array.getElem?_toList, macA_at p i hi]
    have := flat_get (f := encB) (sz := 1) (fun _ => rfl) p i 0 (by omega) (by decide)
    rw [Nat.mul_one, Nat.add_zero] at this
    rw [this]
    unfold mb
    rw [List.getD_eq_getElem?_getD, List.getElem?_eq_getElem (by omega)]
    rfl
  · rw [List.getElem?_eq_none (by rw [Array.length_toList, macA_size]; omega), List.getElem?_eq_none]
    have : ∀ l : List UInt8, (l.flatMap encB).length = l.length := fun l => by
      induction l with
      | nil => rfl
      | cons x l ih => rw [List.flatMap_cons, List.length_append, ih, List.length_cons]; simp [encB]; omega
    rw [this]; omega
theorem Exc.above {lo hi l h : Nat} {a b c : World} (k : Exc lo hi a b) (k2 : Exc l h b c) (hl : a.heap.size ≤ l) : Exc lo hi a c :=
  ⟨k2.os.trans k.os, k2.tape.trans k.tape, k2.output.trans k.output, Nat.le_trans k.size k2.size, fun i hi hd => (k2.block i (Nat.lt_of_lt_of_le hi k.size) (.inl (by omega))).trans (k.block i hi hd)⟩
set_option maxHeartbeats 9000000 in
set_option maxRecDepth 100000 in
theorem sum_S {w : World} {lo g : Nat} {s : St} (hR : RdrS w lo g s) : Calls Tryd.prog 69 #[.pointer (some ⟨g, 0, none⟩)] w (SumP lo g w s RdrS) := by
  obtain ⟨W, hW, hE, -⟩ := box1 w #[.int .u8 0, .int .u8 0, .int .u8 0, .int .u8 0, .int .u8 0, .int .u8 0, .int .u8 0, .int .u8 0, .int .u8 0, .int .u8 0, .int .u8 0, .int .u8 0, .int .u8 0, .int .u8 0, .int .u8 0, .int .u8 0, .int .u8 0, .int .u8 0, .int .u8 0, .int .u8 0, .int .u8 0, .int .u8 0, .int .u8 0, .int .u8 0, .int .u8 0, .int .u8 0, .int .u8 0, .int .u8 0, .int .u8 0, .int .u8 0, .int .u8 0, .int .u8 0] 25
  have B : Blk W w.heap.size 25 #[.int .u8 0, .int .u8 0, .int .u8 0, .int .u8 0, .int .u8 0, .int .u8 0, .int .u8 0, .int .u8 0, .int .u8 0, .int .u8 0, .int .u8 0, .int .u8 0, .int .u8 0, .int .u8 0, .int .u8 0, .int .u8 0, .int .u8 0, .int .u8 0, .int .u8 0, .int .u8 0, .int .u8 0, .int .u8 0, .int .u8 0, .int .u8 0, .int .u8 0, .int .u8 0, .int .u8 0, .int .u8 0, .int .u8 0, .int .u8 0, .int .u8 0, .int .u8 0] := by rw [hW]; exact Blk.new _ _ _
  have hg := hR.lt
  have hRW : RdrAt W lo g s.1 s.2 := RdrAt.ext hR hE
  obtain ⟨P, hP⟩ : ∃ P, SumP lo g w s RdrS = P := ⟨_, rfl⟩
  rw [hP]
  have HP := Lib.hid hP
  clear hP hR
  go_enter Tryd.func69, Tryd.ntmps69
  go_upto_region 1 with fail
  rw [← hW]
  have hWs : W.heap.size = w.heap.size + 1 := by rw [hW]; simp
  clear hW
  refine wp_region_noPanic ?_
  refine tr_start (.y 0 (.y 1 (.e 2 (.e 3 .nil)))) (fun _ => True) (by kernel_rfl) (by as_aux_lemma => kernel_rfl) (fun _ _ _ _ _ h => h) (trivial) ?_
  iterate 2 (first | (refine tr_off (a' := ?_) rfl rfl (by rfl) ?_ ?_; rotate_left 1; (· simp only [Act.put, List.setIfInBounds_toArray, List.set_cons_zero, List.set_cons_succ]; rfl)) | (refine tr_y (v := ?_) (a' := ?_) rfl rfl (by rfl) (fun w' hw' => ?_) ?_ ?_; rotate_left 2; (· go_simp; with_reducible rfl); (· simp only [Act.put, List.setIfInBounds_toArray, List.set_cons_zero, List.set_cons_succ]; rfl)))
  have Bd : Blk W.drew w.heap.size 25 #[.int .u8 0, .int .u8 0, .int .u8 0, .int .u8 0, .int .u8 0, .int .u8 0, .int .u8 0, .int .u8 0, .int .u8 0, .int .u8 0, .int .u8 0, .int .u8 0, .int .u8 0, .int .u8 0, .int .u8 0, .int .u8 0, .int .u8 0, .int .u8 0, .int .u8 0, .int .u8 0, .int .u8 0, .int .u8 0, .int .u8 0, .int .u8 0, .int .u8 0, .int .u8 0, .int .u8 0, .int .u8 0, .int .u8 0, .int .u8 0, .int .u8 0, .int .u8 0] := B
  have hRd : RdrAt W.drew lo g s.1 s.2 := RdrAt.ext hRW (Ext.drew (Ext.refl _))
  have hEd : Ext w W.drew := hE.drew
  have hds : W.drew.heap.size = w.heap.size + 1 := hWs
  generalize W.drew = wd at *
  have htk := take_any wd lo g s.1 s.2 hRd 32 (by decide)
  rw [show ((32 : Nat) : Int) = 32 from rfl] at htk
  refine tr_call (args := ?_) rfl Tryd.func91 (by kernel_rfl) rfl (by rfl) rfl rfl ?_ ?_
  rotate_left 1
  · go_simp; rfl
  (with_reducible refine (htk).mono ?_)
  rintro e w1 ⟨A, c, rfl, h1c, h1S, hR1, hX1⟩
  refine ⟨_, _, rfl, trivial, (by simp only [Act.put, List.setIfInBounds_toArray, List.set_cons_zero, List.set_cons_succ]; rfl), ?_⟩
  have B1 : Blk w1 w.heap.size 25 #[.int .u8 0, .int .u8 0, .int .u8 0, .int .u8 0, .int .u8 0, .int .u8 0, .int .u8 0, .int .u8 0, .int .u8 0, .int .u8 0, .int .u8 0, .int .u8 0, .int .u8 0, .int .u8 0, .int .u8 0, .int .u8 0, .int .u8 0, .int .u8 0, .int .u8 0, .int .u8 0, .int .u8 0, .int .u8 0, .int .u8 0, .int .u8 0, .int .u8 0, .int .u8 0, .int .u8 0, .int .u8 0, .int .u8 0, .int .u8 0, .int .u8 0, .int .u8 0] := hX1.blk Bd (.inr hg)
  have halt := takeG_alt 32 s.1 s.2
  have hX : Exc g (g + 1) w w1 := (Ext.exc hEd).trans hX1
  obtain ⟨p, hp⟩ : ∃ p, (takeG 32 s.1 s.2).1 = p := ⟨_, rfl⟩
  obtain ⟨s', hs'⟩ : ∃ q, (takeG 32 s.1 s.2).2 = q := ⟨_, rfl⟩
  have hsum : sumS s = (sumOf p, s') := by unfold sumS; rw [hp, hs']
  rw [hp] at h1c h1S halt ⊢
  rw [hs'] at hR1
  have HS := Lib.hid hsum
  clear hp hs' hsum htk hRd hRW B Bd hX1
  have hcp : ∃ w2 v, (Builtin.copy_ #[40, 40] 3 #[.slice (some ⟨w.heap.size, 0, none⟩) 32 32, .slice A p.length c]).run Tryd.prog w1 = .ok v w2 ∧ Blk w2 w.heap.size 25 (macA (sumOf p)) ∧ Exc w.heap.size (w.heap.size + 1) w1 w2 := by
    rcases halt with rfl | hp32
    · refine ⟨w1, _, run_copy_none w1 _ _ _ 5 _ _ _ _ _ _ Tryd.underlying40 (by kernel_rfl) rfl, ?_, Exc.refl _ _ _⟩
      rw [sumOf_nil, macA_zero]
      exact B1
    · have hcl := b_cells (h1S.mono only_cle)
      cases A with
      | none => exact absurd (hcl.2.1 rfl) (by omega)
      | some ad =>
        have hlen : (p.flatMap encB).length = 32 := by rw [hcl.1, hp32]
        have hz : ∀ j, j < 32 → (w1.cell? ⟨w.heap.size, 0 + j, none⟩).isSome = true := fun j hj => by
          rw [Nat.zero_add, B1.cell j (v := mb zMac j) (by rw [← macA_zero]; exact macA_at zMac j hj)]
          rfl
        refine ⟨_, _, run_copy_cells w1 _ _ _ 5 w.heap.size 0 32 32 ad p.length c (p.flatMap encB) Tryd.underlying40 (by kernel_rfl) (by rw [hlen, hp32]; rfl) (fun j v hv => hcl.2.2 ad rfl j v hv) (fun j hj => hz j (by omega)) (fun j _ => B1.frozen _) (encB_one p), ?_, setCells_exc _ _ _⟩
        have h := setCells_blk (p.flatMap encB) w1 [] [.int .u8 0, .int .u8 0, .int .u8 0, .int .u8 0, .int .u8 0, .int .u8 0, .int .u8 0, .int .u8 0, .int .u8 0, .int .u8 0, .int .u8 0, .int .u8 0, .int .u8 0, .int .u8 0, .int .u8 0, .int .u8 0, .int .u8 0, .int .u8 0, .int .u8 0, .int .u8 0, .int .u8 0, .int .u8 0, .int .u8 0, .int .u8 0, .int .u8 0, .int .u8 0, .int .u8 0, .int .u8 0, .int .u8 0, .int .u8 0, .int .u8 0, .int .u8 0] [] (by rw [hlen]; rfl) (by simpa using B1)
        rw [sumOf_same p hp32]
        have e : macA p = ([] ++ p.flatMap encB ++ []).toArray := by
          rw [← macA_cells p hp32]
          simp
        rw [e]
        exact h
  obtain ⟨w2, v2, hrun, B2, hX2⟩ := hcp
  refine tr_value (v := v2) (w1 := w2) (a' := ?_) rfl rfl (by rfl) ?_ trivial ?_ ?_
  rotate_left 1
  · exact run_op_copy rfl rfl rfl hrun
  · simp only [Act.put, List.setIfInBounds_toArray, List.set_cons_zero, List.set_cons_succ]; rfl
  refine tr_end (NoPanic.normal ?_)
  have hR2 : RdrAt w2 lo g s'.1 s'.2 := RdrAt.exc hR1 hX2 (.inl hg)
  have hX2' := hX.above hX2 (Nat.le_refl _)
  have hl := load_whole B2 25 _ Tryd.underlying25 rfl (by kernel_rfl)
  obtain ⟨w3, hr3, B3, hX3⟩ := store_part B2 0 (macA (sumOf p)) [] (macA (sumOf p)).toList [] (by simp) rfl (by simp) 25 (by kernel_rfl) (by simp [macA, mb, Value.oneCell'])
  have B3 : Blk w3 w.heap.size 25 (macA (sumOf p)) := by simpa using B3
  have hR3 : RdrAt w3 lo g s'.1 s'.2 := RdrAt.exc hR2 hX3 (.inl hg)
  have hX3' := hX2'.above hX3 (Nat.le_refl _)
  have hx32 := sumOf_len p
  generalize sumOf p = x at *
  clear hrun B2 hX2 hX2' hX3 hR2 hX hR1 B1 hEd hE h1S
  go_wp2_with (first | (refine wpList_load_by rfl rfl ?_ hl ?_; (· rfl)) | (refine wpList_store_by rfl rfl ?_ ?_ hr3 ?_; (· rfl); (· rfl)))
  refine bodyPost_ret (v := .agg (macA x)) (results_cell_row (P := Tryd.prog) (fn := Tryd.f69) rfl _ w3 w.heap.size _ _ _ _ rfl B3 Tryd.underlying25 rfl (by kernel_rfl)) rfl ?_
  rw [← HP.out]
  exact ⟨_, _, HS.out, hx32, rfl, hR3, hX3'⟩
theorem mac_set (m : List UInt8) (hm : m.length = 32) (k : Nat) (hk : k < 32) (x : UInt8) : (macA m).setIfInBounds k (.int .u8 x.toNat) = macA (m.set k x) := by
  apply Array.ext_getElem?
  intro i
  rw [Array.getElem?_setIfInBounds]
  by_cases hi : i < 32
  · rw [macA_at m i hi, macA_at (m.set k x) i hi]
    unfold mb
    by_cases e : k = i
    · subst e
      rw [if_pos rfl, if_pos (by rw [macA_size]; exact hk), List.getD_eq_getElem?_getD, List.getElem?_set_self (by omega)]
      rfl
    · rw [if_neg e, List.getD_eq_getElem?_getD, List.getD_eq_getElem?_getD, List.getElem?_set_ne e]
  · have h1 : ∀ q : List UInt8, (macA q)[i]? = none := fun q => Array.getElem?_eq_none (by rw [macA_size]; omega)
    rw [h1, h1]
    split <;> rename_i h
    · rw [if_neg (by rw [macA_size]; omega)]
    · rfl
def fillM (p : List UInt8) (k : Nat) : List UInt8 := p.take k ++ List.replicate (32 - k) 0
theorem fillM_len (p : List UInt8) (k : Nat) (h : k ≤ p.length) (h2 : p.length ≤ 32) : (fillM p k).length = 32 := by
  unfold fillM
  rw [List.length_append, List.length_take, List.length_replicate]
  omega
theorem fillM_set (p : List UInt8) (k : Nat) (h : k < p.length) (h2 : p.length ≤ 32) : (fillM p k).set k p[k] = fillM p (k + 1) := by
  unfold fillM
  rw [List.take_succ_eq_append_getElem h, List.set_append, if_neg (by rw [List.length_take]; omega)]
  rw [show 32 - k = (32 - (k + 1)) + 1 by omega, List.replicate_succ, show k - (p.take k).length = 0 by rw [List.length_take]; omega, List.set_cons_zero]
  rw [List.append_assoc]
  rfl
theorem fillM_end (p : List UInt8) (h : p = [] ∨ p.length = 32) : fillM p p.length = sumOf p := by
  rcases h with rfl | h
  · rw [sumOf_nil]; rfl
  · unfold fillM
    rw [sumOf_same p h, List.take_length, h]
    simp
end Go.Proofs.YtjcpgjnogcmalaaDoor

/-! Whether some row, some prefix is too long. -/
namespace Go.Proofs.YtjcpgjnogcmalaaDoor
set_option linter.unusedVariables false
set_option linter.unusedSimpArgs false
open Go.RowKit
open Go.Shelf
def firstI {α : Type} (p : α → Bool) : List α → Nat → Int
  | [], _ => -1
  | x :: l, k => if p x then k else firstI p l (k + 1)
theorem firstI_at {α : Type} (p : α → Bool) : ∀ (l : List α) (j k : Nat) (hk : k < l.length), (∀ x ∈ l.take k, p x = false) → p l[k] = true → firstI p l j = ((j + k : Nat) : Int)
  | x :: l, j, 0, _, _, h => by unfold firstI; rw [if_pos (show p x = true from h)]; simp
  | x :: l, j, k + 1, hk, hn, h => by
    unfold firstI
    rw [if_neg (by rw [hn x (by simp)]; simp), firstI_at p l (j + 1) k (by simpa using hk) (fun y hy => hn y (by simp [hy])) h]
    congr 1; omega
theorem firstI_no {α : Type} (p : α → Bool) : ∀ (l : List α) (j : Nat), (∀ x ∈ l, p x = false) → firstI p l j = -1
  | [], _, _ => rfl
  | x :: l, j, hn => by
    unfold firstI
    rw [if_neg (by rw [hn x (by simp)]; simp)]
    exact firstI_no p l _ fun y hy => hn y (by simp [hy])
theorem firstI_any {α : Type} (p : α → Bool) : ∀ (l : List α) (j : Nat), decide (0 ≤ firstI p l j) = l.any p
  | [], _ => by simp [firstI]
  | x :: l, j => by
    unfold firstI
    rw [List.any_cons]
    cases h : p x
    · simpa using firstI_any p l (j + 1)
    · simp
def longP (g : Grant) : Bool := longS g.p
end Go.Proofs.YtjcpgjnogcmalaaDoor

/-! What a kind of command has; a field given. -/
namespace Go.Proofs.YtjcpgjnogcmalaaDoor
set_option linter.unusedVariables false
set_option linter.unusedSimpArgs false
open Go.RowKit
open Go.Shelf
def ofT (k : Nat) : Nat := [0, 15, 49, 48, 2, 64, 128, 48, 16].getD k 0
def hasM (m f : Int) : Bool := bits .and .u64 m f != 0
theorem hasM_F : ∀ k : Fin 9, ∀ i : Fin 8, hasM (ofT k.1) (2 ^ i.1) = hasF k.1 i.1 := by decide +kernel
def maskN : List Bool → Nat → Nat
  | [], _ => 0
  | b :: l, i => (if b then 2 ^ i else 0) + maskN l (i + 1)
theorem mask_eight : ∀ b0 b1 b2 b3 b4 b5 b6 b7 : Bool, ∀ k : Fin 9, (bits .andNot .u64 (maskN [b0, b1, b2, b3, b4, b5, b6, b7] 0) (ofT k.1) != 0) = ((List.range 8).any fun i => ([b0, b1, b2, b3, b4, b5, b6, b7].getD i false) && !hasF k.1 i) := by decide +kernel
theorem neq_gr (w : World) (g : Grant) : (binOp .neq 35 (.agg (grA g)) (.agg #[.int .i64 0, .string ⟨#[]⟩, .bool false, .int .i64 0])).run Tryd.prog w = .ok (.bool (!zeroG g)) w := by
  unfold grA zeroG
  go_simp
  (repeat' split) <;> simp_all
theorem maskN_snoc (b : Bool) : ∀ (l : List Bool) (i : Nat), maskN (l ++ [b]) i = maskN l i + (if b then 2 ^ (i + l.length) else 0)
  | [], i => by simp [maskN]
  | x :: l, i => by
    rw [List.cons_append, maskN, maskN, maskN_snoc b l (i + 1), List.length_cons, show i + 1 + l.length = i + (l.length + 1) by omega]
    omega
theorem mask_step : ∀ b0 b1 b2 b3 b4 b5 b6 b7 : Bool, ∀ k : Fin 8, [b0, b1, b2, b3, b4, b5, b6, b7].getD k.1 false = true → bits .or .u64 (maskN ([b0, b1, b2, b3, b4, b5, b6, b7].take k.1) 0 : Nat) ((2 ^ k.1 : Nat) : Int) = (maskN ([b0, b1, b2, b3, b4, b5, b6, b7].take (k.1 + 1)) 0 : Nat) := by decide +kernel
theorem mask_same (l : List Bool) (k : Nat) (h : l[k]? = some false) : maskN (l.take (k + 1)) 0 = maskN (l.take k) 0 := by
  obtain ⟨hk, h2⟩ := List.getElem?_eq_some_iff.1 h
  rw [List.take_succ_eq_append_getElem hk, maskN_snoc, h2]
  simp
end Go.Proofs.YtjcpgjnogcmalaaDoor

/-! What is wrong with a command, by the program. -/
namespace Go.Proofs.YtjcpgjnogcmalaaDoor
set_option linter.unusedVariables false
set_option linter.unusedSimpArgs false
open Go.RowKit
open Go.Shelf
section
variable {P : Program} {ops : Array Oper} {Q : Exit → Act → World → Prop} {S : World → Prop} {i : Nat} {r : Tr} {o : Oper} {n : Tmp} {a : Act} {w : World}
/-- A call of a function value. -/
theorem tr_callv {x : Operand} {f : FuncId} {fn : Func} {ar : Array Operand} {ts : Array TypeId} (hi : ops[i]? = some o) (hf : P.funcs[f]? = some fn) (hname : (fn.name == "runtime.NumGoroutine") = false) (hb : fn.body.isSome = true) (args caps : Array Value)
    (hw : Region.wanted o (yielded ops a.tmps) = true) (hN : o.dst = some n) (hop : o.op = .call { callee := .value x, args := ar, argTypes := ts }) (hx : a.eval x = .func (.func f) #[] caps) (hargs : ar.map a.eval ++ caps = args)
    (h : Calls P f args w fun e w' => ∃ v a', e = .returned v ∧ S w' ∧ a.put (some n) v = a' ∧ wpTr P ops Q S r a' w') : wpTr P ops Q S (.e i r) a w := by
  have he := enters hf hname hb args w
  have hrun : (execOp a.eval o).run P w = .ok (.enter f args) w := by
    unfold execOp
    simp [hop, resolve, Deferred.ofValue, hx, invoke, hargs, he]
  show wpOp P ops Q i _ a w
  unfold Go.wpOp
  simp only [hi, hw, if_true]
  refine .inl ?_
  unfold Oper.wp
  rw [hrun, Oper.upon_enter]
  refine h.mono fun e w'' hh => ?_
  obtain ⟨v, a', rfl, hS, ha, hk⟩ := hh
  rw [hN]
  show (S w'' ∨ _) ∧ wpTr P ops Q S r (a.put (some n) v) w''
  rw [ha]
  exact ⟨.inl hS, hk⟩
end
theorem wpList_load_w {P : Program} {ops : Array Oper} {rest : List Oper} {o : Oper} {a : Act} {w : World} {Q : Exit → Act → World → Prop} (hw : Region.wanted o (yielded ops a.tmps) = true) {ty : TypeId} {x : Operand} (ho : o.op = .load ty x) {p v : Value} (hx : a.eval x = p) (h : (Instr.loadAt ty p).run P w = .ok v w)
    (k : wpList P ops Q rest (a.put o.dst v) w) : wpList P ops Q (o :: rest) a w := by
  refine pl_step hw ?_
  unfold Oper.wp
  rw [run_op_load ho hx h, Oper.upon_value]
  exact k
theorem grCheck_any (g : Grant) (w : World) (hs : g.p.size ≤ 9223372036854775807) : Calls Tryd.prog 23 #[.agg (grA g)] w fun e w' => e = .returned (.int .i64 (checkG g.r g.p g.x g.u)) ∧ Ext w w' := check_any g.r g.p g.x g.u w hs
structure CmdLen (c : Cmd) : Prop where
  n : c.tok.gs.length ≤ 1000000
  p : ∀ g ∈ c.tok.gs, g.p.size ≤ 9223372036854775807
  m : c.bodies.length ≤ 1000000
  x : ∀ x ∈ c.bodies, x.length ≤ 9223372036854775807
  st : c.st.size ≤ 9223372036854775807
  su : c.su.size ≤ 9223372036854775807
  gp : c.gr.p.size ≤ 9223372036854775807
theorem foreign_mask (c : Cmd) (k : Nat) (hk : c.kind = k) (hk8 : k ≤ 8) : (bits .andNot .u64 (maskN (giveG c) 0 : Nat) (ofT k : Nat) != 0) = foreignG c := by
  have h := mask_eight (!c.st.toList.isEmpty) (!c.su.toList.isEmpty) (decide (c.ex ≠ 0)) (decide (0 < c.bodies.length)) (decide (c.fr ≠ 0)) (decide (c.ct ≠ 0)) (!zeroG c.gr) (decide (c.id ≠ 0)) ⟨k, by omega⟩
  simp only at h
  unfold foreignG
  rw [hk]
  exact h
end Go.Proofs.YtjcpgjnogcmalaaDoor

/-! A token read from bytes, by the program. -/
namespace Go.Proofs.YtjcpgjnogcmalaaDoor
set_option linter.unusedVariables false
set_option linter.unusedSimpArgs false
open Go.RowKit
/-- A reader of a token at work: the reader at g, the result at h, the token at q. -/
structure TSt (w0 w : World) (lo g h q : Nat) (s : St) (cs : Array Value) : Prop where
  rd : RdrS w lo g s
  rs : Blk w h 27 #[.string ⟨#[]⟩, .int .i64 0, .slice none 0 0, .int .u8 0, .int .u8 0, .int .u8 0, .int .u8 0, .int .u8 0, .int .u8 0, .int .u8 0, .int .u8 0, .int .u8 0, .int .u8 0, .int .u8 0, .int .u8 0, .int .u8 0, .int .u8 0, .int .u8 0, .int .u8 0, .int .u8 0, .int .u8 0, .int .u8 0, .int .u8 0, .int .u8 0, .int .u8 0, .int .u8 0, .int .u8 0, .int .u8 0, .int .u8 0, .int .u8 0, .int .u8 0, .int .u8 0, .int .u8 0, .int .u8 0, .int .u8 0]
  tk : Blk w q 27 cs
  lt : g < w0.heap.size
  h0 : w0.heap.size ≤ h
  hq : h < q
  ex : Exc g (g + 1) w0 w
section
variable {w0 w w' : World} {lo g h q : Nat} {s s' : St} {cs : Array Value}
theorem TSt.exc (k : TSt w0 w lo g h q s cs) (hR : RdrS w' lo g s') (hX : Exc g (g + 1) w w') : TSt w0 w' lo g h q s' cs := by
  have h1 := k.lt
  have h2 := k.h0
  have h3 := k.hq
  exact ⟨hR, hX.blk k.rs (.inr (by omega)), hX.blk k.tk (.inr (by omega)), k.lt, k.h0, k.hq, k.ex.trans hX⟩
theorem TSt.put (k : TSt w0 w lo g h q s cs) (i : Nat) (v : Value) : TSt w0 (w.setCell ⟨q, i, none⟩ v) lo g h q s (cs.setIfInBounds i v) := by
  have h1 := k.lt
  have h2 := k.h0
  have h3 := k.hq
  have hX : Exc q (q + 1) w (w.setCell ⟨q, i, none⟩ v) := Exc.setCell (p := ⟨q, i, none⟩) (Nat.le_refl _) (Nat.lt_succ_self _) v
  exact ⟨RdrAt.exc k.rd hX (.inl (by omega)), hX.blk k.rs (.inl h3), k.tk.set_ i v, k.lt, k.h0, k.hq, k.ex.above hX (by omega)⟩
theorem TSt.store (k : TSt w0 w lo g h q s cs) {cs' : Array Value} (hX : Exc q (q + 1) w w') (hB : Blk w' q 27 cs') : TSt w0 w' lo g h q s cs' := by
  have h1 := k.lt
  have h2 := k.h0
  have h3 := k.hq
  exact ⟨RdrAt.exc k.rd hX (.inl (by omega)), hX.blk k.rs (.inl h3), hB, k.lt, k.h0, k.hq, k.ex.above hX (by omega)⟩
theorem TSt.up (k : TSt w0 w lo g h q s cs) (hb : Below (q + 1) w w') : TSt w0 w' lo g h q s cs := by
  have h1 := k.lt
  have h2 := k.h0
  have h3 := k.hq
  have hX : Exc (q + 1) (w'.heap.size + q + 1) w w' := ⟨hb.os, hb.tape, hb.output, hb.size, fun i hi hd => hb.block i (by have := hb.size; omega)⟩
  exact ⟨k.rd.below hb (by omega), (hb.block h (by omega)).trans k.rs, (hb.block q (by omega)).trans k.tk, k.lt, k.h0, k.hq, k.ex.above hX (by omega)⟩
theorem TSt.size (k : TSt w0 w lo g h q s cs) : q + 1 ≤ w.heap.size := k.tk.lt
end
structure TokBd (t : Tok) : Prop where
  ten : t.ten.size ≤ 24
  id : intOk t.id
  n : t.gs.length ≤ 6
  g : ∀ x ∈ t.gs, x.p.size ≤ 24 ∧ intOk x.r ∧ intOk x.u
  mac : t.mac.length = 32
theorem zTok_bd : TokBd zTok := ⟨by decide, by unfold intOk zTok; decide, by decide, (fun x hx => by simp [zTok] at hx), rfl⟩
def TokRdP (lo g : Nat) (w : World) (s : St) (R : World → Nat → Nat → St → Prop) (e : Ending) (w' : World) : Prop := ∃ t s' a, tokS s = (t, s') ∧ TokBd t ∧ e = .returned (.agg (tokA t a)) ∧ GsV (only w' w.heap.size w'.heap.size) t.gs a ∧ R w' lo g s' ∧ Exc g (g + 1) w w'
def isOne (n : Nat) : Bool := ((n : Int) == 1)
theorem gr_step {s0 s1 s2 s3 s4 : St} {x : Int} {p : ByteArray} {n : Nat} {u : Int} (h1 : intS s0 = (x, s1)) (h2 : textS 24 s1 = (p, s2)) (h3 : countS 1 s2 = ((n : Int), s3)) (h4 : intS s3 = (u, s4)) : grS s0 = (⟨x, p, isOne n, u⟩, s4) := by
  unfold grS pairS boolS
  simp only [h1, h2, h3, h4]
  rfl
set_option maxHeartbeats 9000000 in
set_option maxRecDepth 100000 in
theorem tread_any {w : World} {lo g : Nat} {s : St} (hR : RdrS w lo g s) : Calls Tryd.prog 33 #[.pointer (some ⟨g, 0, none⟩)] w (TokRdP lo g w s RdrS) := by
  obtain ⟨W, hW, hE, -⟩ := box1 w #[.string ⟨#[]⟩, .int .i64 0, .slice none 0 0, .int .u8 0, .int .u8 0, .int .u8 0, .int .u8 0, .int .u8 0, .int .u8 0, .int .u8 0, .int .u8 0, .int .u8 0, .int .u8 0, .int .u8 0, .int .u8 0, .int .u8 0, .int .u8 0, .int .u8 0, .int .u8 0, .int .u8 0, .int .u8 0, .int .u8 0, .int .u8 0, .int .u8 0, .int .u8 0, .int .u8 0, .int .u8 0, .int .u8 0, .int .u8 0, .int .u8 0, .int .u8 0, .int .u8 0, .int .u8 0, .int .u8 0, .int .u8 0] 27
  have B : Blk W w.heap.size 27 #[.string ⟨#[]⟩, .int .i64 0, .slice none 0 0, .int .u8 0, .int .u8 0, .int .u8 0, .int .u8 0, .int .u8 0, .int .u8 0, .int .u8 0, .int .u8 0, .int .u8 0, .int .u8 0, .int .u8 0, .int .u8 0, .int .u8 0, .int .u8 0, .int .u8 0, .int .u8 0, .int .u8 0, .int .u8 0, .int .u8 0, .int .u8 0, .int .u8 0, .int .u8 0, .int .u8 0, .int .u8 0, .int .u8 0, .int .u8 0, .int .u8 0, .int .u8 0, .int .u8 0, .int .u8 0, .int .u8 0, .int .u8 0] := by rw [hW]; exact Blk.new _ _ _
  have hg := hR.lt
  have hRW : RdrS W lo g s := RdrAt.ext hR hE
  have hWs : W.heap.size = w.heap.size + 1 := by rw [hW]; simp
  obtain ⟨P, hP⟩ : ∃ P, TokRdP lo g w s RdrS = P := ⟨_, rfl⟩
  rw [hP]
  have HP := Lib.hid hP
  clear hP hR
  go_enter Tryd.func33, Tryd.ntmps33
  go_upto_region 1 with fail
  rw [← hW]
  have HW := Lib.hid hWs
  clear hW hWs
  have ht0 := text_S hRW 24 (by decide)
  rw [show ((24 : Nat) : Int) = 24 from rfl] at ht0
  refine wp_region_lit ?_
  (first | (refine pl_off (a' := ?_) rfl (by rfl) ?_ ?_; rotate_left 1; (· simp only [Act.put, List.setIfInBounds_toArray, List.set_cons_zero, List.set_cons_succ]; rfl)) | (refine pl_y (v := ?_) (a' := ?_) rfl (by rfl) ?_ ?_ ?_; rotate_left 2; (· go_simp; with_reducible rfl); (· simp only [Act.put, List.setIfInBounds_toArray, List.set_cons_zero, List.set_cons_succ]; rfl)))
  refine pl_call (args := ?_) Tryd.func66 (by kernel_rfl) rfl (by rfl) rfl rfl ?_ ?_
  rotate_left 1
  · go_simp; with_reducible rfl
  (with_reducible refine (ht0).mono ?_)
  rintro e w1 ⟨x0, s0, hp0, hz0, rfl, hR1, hX1⟩
  refine ⟨_, _, rfl, (by simp only [Act.put, List.setIfInBounds_toArray, List.set_cons_zero, List.set_cons_succ]; rfl), ?_⟩
  have HP0 := Lib.hid hp0
  (first | (refine pl_off (a' := ?_) rfl (by rfl) ?_ ?_; rotate_left 1; (· simp only [Act.put, List.setIfInBounds_toArray, List.set_cons_zero, List.set_cons_succ]; rfl)) | (refine pl_y (v := ?_) (a' := ?_) rfl (by rfl) ?_ ?_ ?_; rotate_left 2; (· go_simp; with_reducible rfl); (· simp only [Act.put, List.setIfInBounds_toArray, List.set_cons_zero, List.set_cons_succ]; rfl)))
  refine pl_call (args := ?_) Tryd.func67 (by kernel_rfl) rfl (by rfl) rfl rfl ?_ ?_
  rotate_left 1
  · go_simp; with_reducible rfl
  (with_reducible refine (int_S hR1).mono ?_)
  rintro e w2 ⟨x1, s1, hp1, hz1, rfl, hR2, hX2⟩
  refine ⟨_, _, rfl, (by simp only [Act.put, List.setIfInBounds_toArray, List.set_cons_zero, List.set_cons_succ]; rfl), ?_⟩
  have HP1 := Lib.hid hp1
  (first | (refine pl_off (a' := ?_) rfl (by rfl) ?_ ?_; rotate_left 1; (· simp only [Act.put, List.setIfInBounds_toArray, List.set_cons_zero, List.set_cons_succ]; rfl)) | (refine pl_y (v := ?_) (a' := ?_) rfl (by rfl) ?_ ?_ ?_; rotate_left 2; (· go_simp; with_reducible rfl); (· simp only [Act.put, List.setIfInBounds_toArray, List.set_cons_zero, List.set_cons_succ]; rfl)))
  refine pl_v (v := ?_) (w1 := ?_) (a' := ?_) rfl (by rfl) ?_ ?_ ?_
  rotate_left 3
  · go_simp; refine ⟨?_, ?_⟩ <;> with_reducible rfl
  · simp only [Act.put, List.setIfInBounds_toArray, List.set_cons_zero, List.set_cons_succ]; rfl
  obtain ⟨V, hV, hEV, -⟩ := box1 w2 #[.string ⟨#[]⟩, .int .i64 0, .slice none 0 0, .int .u8 0, .int .u8 0, .int .u8 0, .int .u8 0, .int .u8 0, .int .u8 0, .int .u8 0, .int .u8 0, .int .u8 0, .int .u8 0, .int .u8 0, .int .u8 0, .int .u8 0, .int .u8 0, .int .u8 0, .int .u8 0, .int .u8 0, .int .u8 0, .int .u8 0, .int .u8 0, .int .u8 0, .int .u8 0, .int .u8 0, .int .u8 0, .int .u8 0, .int .u8 0, .int .u8 0, .int .u8 0, .int .u8 0, .int .u8 0, .int .u8 0, .int .u8 0] 27
  have BV : Blk V w2.heap.size 27 #[.string ⟨#[]⟩, .int .i64 0, .slice none 0 0, .int .u8 0, .int .u8 0, .int .u8 0, .int .u8 0, .int .u8 0, .int .u8 0, .int .u8 0, .int .u8 0, .int .u8 0, .int .u8 0, .int .u8 0, .int .u8 0, .int .u8 0, .int .u8 0, .int .u8 0, .int .u8 0, .int .u8 0, .int .u8 0, .int .u8 0, .int .u8 0, .int .u8 0, .int .u8 0, .int .u8 0, .int .u8 0, .int .u8 0, .int .u8 0, .int .u8 0, .int .u8 0, .int .u8 0, .int .u8 0, .int .u8 0, .int .u8 0] := by rw [hV]; exact Blk.new _ _ _
  rw [← hV]
  have hX12 := (Ext.exc hE).trans (hX1.trans hX2)
  have hw2 : W.heap.size ≤ w2.heap.size := (hX1.trans hX2).size
  rw [HW.out] at hw2
  obtain ⟨V2, hr, BV2, hXV⟩ := store_part BV 0 (tokA ⟨x0, x1, [], zMac⟩ (.slice none 0 0)) [] [.string ⟨#[]⟩, .int .i64 0, .slice none 0 0, .int .u8 0, .int .u8 0, .int .u8 0, .int .u8 0, .int .u8 0, .int .u8 0, .int .u8 0, .int .u8 0, .int .u8 0, .int .u8 0, .int .u8 0, .int .u8 0, .int .u8 0, .int .u8 0, .int .u8 0, .int .u8 0, .int .u8 0, .int .u8 0, .int .u8 0, .int .u8 0, .int .u8 0, .int .u8 0, .int .u8 0, .int .u8 0, .int .u8 0, .int .u8 0, .int .u8 0, .int .u8 0, .int .u8 0, .int .u8 0, .int .u8 0, .int .u8 0] [] rfl rfl rfl 27 (by kernel_rfl) (one_tok _ _ rfl)
  have BV2 : Blk V2 w2.heap.size 27 (tokA ⟨x0, x1, [], zMac⟩ (.slice none 0 0)) := by simpa using BV2
  have hT0 : TSt w V2 lo g w.heap.size w2.heap.size s1 (tokA ⟨x0, x1, [], zMac⟩ (.slice none 0 0)) :=
    ⟨RdrAt.exc (RdrAt.ext hR2 hEV) hXV (.inl (by have := hR2.lt; omega)), hXV.blk ((((hX1.trans hX2).blk B (.inr hg))).ext hEV) (.inl (by omega)), BV2, hg, Nat.le_refl _, by omega, (hX12.trans (Ext.exc hEV)).above hXV (by omega)⟩
  refine pl_store (by rfl) rfl (run_op_store rfl ?_ ?_ hr) ?_
  · rfl
  · rfl
  clear hV hEV BV hX12 BV2 hXV hr hp0 hp1 ht0 hR1 hR2 hX1 hX2 hRW B hE
  generalize w2.heap.size = q at *
  refine wpList_nil ?_
  have hct := count_S hT0.rd 6
  rw [show ((6 : Nat) : Int) = 6 from rfl] at hct
  go_wp2_with (go_at_call 68; (with_reducible refine hct.mono ?_); rintro e w3 ⟨m, s3, hp3, hm, rfl, hR3, hX3⟩; have HP3 := Lib.hid hp3; clear hp3)
  have hT1 := hT0.exc hR3 hX3
  clear hct hT0 hR3 hX3
  go_loopw [12] (fun i wr => ∃ (k : Nat) (v : Value) (rows : List Grant) (sk : St), k ≤ m ∧ i = .int .i64 k ∧ Hid (manyS grS k s3 = (rows, sk)) ∧ TSt w wr lo g w.heap.size q sk (tokA ⟨x0, x1, [], zMac⟩ v) ∧ wr.ownsRow (q + 1) 35 4 v k (rows.flatMap fun x => (grA x).toList) ∧ Hid (rows.length = k) ∧ (∀ x ∈ rows, x.p.size ≤ 24 ∧ intOk x.r ∧ intOk x.u)) (fun i _ => m - (intOf i).toNat)
  case atStart => exact ⟨0, _, [], s3, by omega, rfl, Lib.hid rfl, hT1, World.ownsRow_nil _ _ _ _, Lib.hid rfl, (fun x hx => by cases hx)⟩
  case round =>
    clear hT1
    obtain ⟨k, v, rows, sk, hkm, rfl, HB, hT, hown, HL, hel⟩ := hrel
    by_cases hlt : k < m
    · have hi := int_S hT.rd
      go_upto_region 5 with (first | (go_at_call 67; (with_reducible refine hi.mono ?_); rintro e w4 ⟨gx, s4, hp4, hz4, rfl, hR4, hX4⟩; have ht5 := text_S hR4 24 (by decide); rw [show ((24 : Nat) : Int) = 24 from rfl] at ht5; have HP4 := Lib.hid hp4; clear hp4 hi) | (go_at_call 66; (with_reducible refine ht5.mono ?_); rintro e w5 ⟨gp, s5, hp5, hz5, rfl, hR5, hX5⟩; have hc6 := count_S hR5 1; rw [show ((1 : Nat) : Int) = 1 from rfl] at hc6; have HP5 := Lib.hid hp5; clear hp5 ht5) | (go_at_call 68; (with_reducible refine hc6.mono ?_); rintro e w6 ⟨gn, s6, hp6, hz6, rfl, hR6, hX6⟩; have HP6 := Lib.hid hp6; clear hp6 hc6))
      have hT6 := ((hT.exc hR4 hX4).exc hR5 hX5).exc hR6 hX6
      have hXa := hX4.trans (hX5.trans hX6)
      have hq6 : q + 1 ≤ w6.heap.size := hT6.size
      have hb7 : Below (q + 1) w6 (w6.alloc (.cells #[.int .i64 gx, .string gp, .bool ((gn : Int) == 1), .int .i64 0] 35)) := (Below.refl _ _).alloc hq6 _
      have hT7 := hT6.up hb7
      have B7 := Blk.new w6 35 #[.int .i64 gx, .string gp, .bool ((gn : Int) == 1), .int .i64 0]
      have hXb : Exc g (g + 1) wr (w6.alloc (.cells #[.int .i64 gx, .string gp, .bool ((gn : Int) == 1), .int .i64 0] 35)) := hXa.trans (Ext.exc ((Ext.refl _).alloc _))
      have hwr6 : wr.heap.size ≤ w6.heap.size := hXa.size
      clear hT hR4 hX4 hR5 hX5 hR6 hX6 hb7 hT6 hXa
      generalize w6.alloc (.cells #[.int .i64 gx, .string gp, .bool ((gn : Int) == 1), .int .i64 0] 35) = w7 at *
      generalize w6.heap.size = p6 at *
      have hi := int_S hT7.rd
      have hgq : g < p6 := by have := hT7.lt; have := hT7.h0; have := hT7.hq; omega
      go_upto_region 6 with (go_at_call 67; (with_reducible refine hi.mono ?_); rintro e w8 ⟨gu, s7, hp7, hz7, rfl, hR8, hX8⟩; have HP7 := Lib.hid hp7; clear hp7 hi; have B8 := hX8.blk B7 (.inr hgq); have bc := B8.cell 3 (v := .int .i64 0) rfl; have bf := B8.frozen 3)
      have hT8 := hT7.exc hR8 hX8
      have hB9 : Below (q + 1) w8 (w8.setCell ⟨p6, 3, none⟩ (.int .i64 gu)) := Below.setCell (p := ⟨p6, 3, none⟩) (Below.refl _ _) (by show q + 1 ≤ p6; omega) _
      have hT9 := hT8.up hB9
      have B9 := B8.set_ 3 (.int .i64 gu)
      have hXc : Exc g (g + 1) wr (w8.setCell ⟨p6, 3, none⟩ (.int .i64 gu)) := (hXb.trans hX8).above (Exc.setCell (lo := p6) (hi := p6 + 1) (p := ⟨p6, 3, none⟩) (Nat.le_refl _) (Nat.lt_succ_self _) _) hwr6
      generalize w8.setCell ⟨p6, 3, none⟩ (.int .i64 gu) = w9 at *
      have B9 : Blk w9 p6 35 (grA ⟨gx, gp, isOne gn, gu⟩) := B9
      have hown9 := own_exc hown hXc (by have := hT9.lt; have := hT9.h0; have := hT9.hq; omega)
      have hl := load_whole B9 35 _ Tryd.underlying35 rfl (by kernel_rfl)
      have c2 := hT9.tk.cell 2 (v := v) rfl
      have hstep := gr_step HP4.out HP5.out HP6.out HP7.out
      obtain ⟨x, hx⟩ : ∃ x : Grant, x = ⟨gx, gp, isOne gn, gu⟩ := ⟨_, rfl⟩
      rw [← hx] at hl hstep
      have hxb : x.p.size ≤ 24 ∧ intOk x.r ∧ intOk x.u := by rw [hx]; exact ⟨hz5, hz4, hz7⟩
      have HST := Lib.hid hstep
      have hfo := fold_all (Z := Value.cells (.agg #[.int .i64 0, .string ⟨#[]⟩, .bool false, .int .i64 0])) (C := grA x) (n := 4) (by decide) rfl rfl
      simp only [Value.cells] at hfo
      have h1 := one_gr x
      have hsz : (grA x).size = 4 := rfl
      have hq9 : q + 1 ≤ w9.heap.size := hT9.size
      generalize hCC : grA x = C at hl hfo h1 hsz
      have HCC := Lib.hid hCC
      clear hT7 hT8 B7 B8 B9 hXb hXc hown hX8 hR8 bc bf hB9 hx hstep hCC
      go_wp2_with (first | (refine wpList_load_by rfl rfl ?_ hl ?_; (· rfl)) | (at_builtin; refine wpList_append_cells (news := C.toList) rfl elt_Grants (.tmp 26) (.tmp 28) rfl (hown9.alloc _) rfl rfl ?c0 ?c1 ?c2 ?c3 ?c4 ?_))
      case c0 => exact ⟨by simp [hsz], (fun h => by cases h), fun ad h j u hu => (by cases h; exact new_cells w9 _ C j u hu)⟩
      case c1 => exact h1
      case c2 => unfold maxLen; omega
      case c3 => omega
      case c4 => simp; omega
      intro v' w10 hown' hgrow
      have hb10 : Below (q + 1) w9 (w9.alloc (.cells C 35)) := (Below.refl _ _).alloc hq9 _
      have hT10 := hT9.up (below_grown hb10 (by simp; omega) (hown9.alloc _) hgrow (Nat.le_refl _))
      obtain ⟨A7, c7, rfl⟩ := own_val hown'
      have d2 := hT10.tk.cell 2 (v := v) rfl
      have g2 := hT10.tk.frozen 2
      have hT11 := hT10.put 2 (.slice A7 (k + 1) c7)
      have hown11 := own_set hown' (p := ⟨q, 2, none⟩) (Nat.lt_succ_self q) (.slice A7 (k + 1) c7)
      clear hgrow hown' hown9 hT9 hl c2 h1 hfo hb10
      have hT11 : TSt w (w10.setCell ⟨q, 2, none⟩ (.slice A7 (k + 1) c7)) lo g w.heap.size q s7 (tokA ⟨x0, x1, [], zMac⟩ (.slice A7 (k + 1) c7)) := hT11
      go_wp2_with fail
      generalize w10.setCell ⟨q, 2, none⟩ (.slice A7 (k + 1) c7) = w11 at *
      have hrel : Hid (manyS grS (k + 1) s3 = (rows ++ [x], s7)) := Lib.hid (by rw [manyS, HB.out]; simp only [HST.out])
      have hrow : w11.ownsRow (q + 1) 35 4 (.slice A7 (k + 1) c7) (k + 1) ((rows ++ [x]).flatMap fun x => (grA x).toList) := by
        rw [List.flatMap_append]
        simpa [HCC.out] using hown11
      have hlen : Hid ((rows ++ [x]).length = k + 1) := Lib.hid (by rw [List.length_append, HL.out]; rfl)
      have hel2 : ∀ y ∈ rows ++ [x], y.p.size ≤ 24 ∧ intOk y.r ∧ intOk y.u := fun y hy => by
        rcases List.mem_append.1 hy with hy | hy
        · exact hel y hy
        · obtain rfl : y = x := by simpa using hy
          exact hxb
      clear hown11 hT10 hel hxb HB HL d2 g2
      go_roundw
      case rel => exact ⟨k + 1, _, rows ++ [x], s7, by omega, by go_num, hrel, hT11, hrow, hlen, hel2⟩
      case measure => simp [intOf]; omega
    · obtain rfl : k = m := by omega
      have hsm := sum_S hT.rd
      unfold SumP at hsm
      have hraw : ∀ x sF, sumS sk = (x, sF) → tokRawS s = (⟨x0, x1, rows, x⟩, sF) := fun x sF hx => by
        unfold tokRawS pairS listS
        simp only [HP0.out, HP1.out, HP3.out, Int.toNat_natCast, HB.out, hx]
      have HRAW := Lib.hid hraw
      clear hraw
      go_upto_region 8 with fail
      refine wp_region_lit ?_
      (first | (refine pl_off (a' := ?_) rfl (by rfl) ?_ ?_; rotate_left 1; (· simp only [Act.put, List.setIfInBounds_toArray, List.set_cons_zero, List.set_cons_succ]; rfl)) | (refine pl_y (v := ?_) (a' := ?_) rfl (by rfl) ?_ ?_ ?_; rotate_left 2; (· go_simp; with_reducible rfl); (· simp only [Act.put, List.setIfInBounds_toArray, List.set_cons_zero, List.set_cons_succ]; rfl)))
      refine pl_call (args := ?_) Tryd.func69 (by kernel_rfl) rfl (by rfl) rfl rfl ?_ ?_
      rotate_left 1
      · go_simp; with_reducible rfl
      (with_reducible refine (hsm).mono ?_)
      rintro e w12 ⟨x, sF, hxs, hx32, rfl, hR12, hX12⟩
      refine ⟨_, _, rfl, (by simp only [Act.put, List.setIfInBounds_toArray, List.set_cons_zero, List.set_cons_succ]; rfl), ?_⟩
      have hT12 := hT.exc hR12 hX12
      have hown12 := own_exc hown hX12 (by have := hT.lt; have := hT.h0; have := hT.hq; omega)
      obtain ⟨w13, hr13, B13, hX13⟩ := store_part hT12.tk 3 (macA x) [.string x0, .int .i64 x1, v] (macA zMac).toList [] rfl rfl rfl 25 (by kernel_rfl) (by simp [macA, mb, Value.oneCell'])
      have B13 : Blk w13 q 27 (tokA ⟨x0, x1, rows, x⟩ v) := B13
      have hT13 := hT12.store hX13 B13
      have hown13 := own_exc hown12 hX13 (Nat.le_refl _)
      have hraw := HRAW.out x sF hxs
      (first | (refine pl_off (a' := ?_) rfl (by rfl) ?_ ?_; rotate_left 1; (· simp only [Act.put, List.setIfInBounds_toArray, List.set_cons_zero, List.set_cons_succ]; rfl)) | (refine pl_y (v := ?_) (a' := ?_) rfl (by rfl) ?_ ?_ ?_; rotate_left 2; (· go_simp; with_reducible rfl); (· simp only [Act.put, List.setIfInBounds_toArray, List.set_cons_zero, List.set_cons_succ]; rfl)))
      refine pl_store (by rfl) rfl (run_op_store rfl ?_ ?_ hr13) ?_
      · rfl
      · rfl
      refine wpList_nil ?_
      have hbad := bad_any w13 lo g sF.1 sF.2 hT13.rd
      obtain ⟨t, ht⟩ : ∃ t : Tok, (⟨x0, x1, rows, x⟩ : Tok) = t := ⟨_, rfl⟩
      have htb : TokBd t := by rw [← ht]; exact ⟨hz0, hz1, by rw [HL.out]; omega, hel, hx32⟩
      have htg : t.gs = rows := by rw [← ht]
      rw [ht] at B13 hT13 hraw
      obtain ⟨A7, c7, hv7, h7c, -, h7S⟩ := own_onlyM (d := rdGr) (f := grA) (fun _ => rfl) (lo := q + 1) (hi := w13.heap.size) (l := rows) (fun x _ w => gr_K w x) (by rw [HL.out]; exact hown13) (Nat.le_refl _) (Nat.le_refl _)
      have HRW := Lib.hid hraw
      clear hown hown12 hown13 hT hT12 hR12 hX12 hX13 hr13 hsm hraw B13 hel
      by_cases hy : sF.2 = 0
      · have hy1 : (sF.2 != 0) = false := by simpa using hy
        rw [hy1] at hbad
        have hl := load_whole hT13.tk 27 _ Tryd.underlying27 rfl (by kernel_rfl)
        obtain ⟨w14, hr14, B14, hX14⟩ := store_part hT13.rs 0 (tokA t v) [] [.string ⟨#[]⟩, .int .i64 0, .slice none 0 0, .int .u8 0, .int .u8 0, .int .u8 0, .int .u8 0, .int .u8 0, .int .u8 0, .int .u8 0, .int .u8 0, .int .u8 0, .int .u8 0, .int .u8 0, .int .u8 0, .int .u8 0, .int .u8 0, .int .u8 0, .int .u8 0, .int .u8 0, .int .u8 0, .int .u8 0, .int .u8 0, .int .u8 0, .int .u8 0, .int .u8 0, .int .u8 0, .int .u8 0, .int .u8 0, .int .u8 0, .int .u8 0, .int .u8 0, .int .u8 0, .int .u8 0, .int .u8 0] [] rfl rfl rfl 27 (by kernel_rfl) (one_tok _ _ (by rw [hv7]; rfl))
        have B14 : Blk w14 w.heap.size 27 (tokA t v) := by simpa using B14
        go_wp2_with (first | (go_at_call 36; (with_reducible refine hbad.mono ?_); rintro e w9 ⟨rfl, rfl⟩) | (refine wpList_load_by rfl rfl ?_ hl ?_; (· rfl)) | (refine wpList_store_by rfl rfl ?_ ?_ hr14 ?_; (· rfl); (· rfl)))
        refine bodyPost_ret (v := .agg (tokA t v)) (results_cell_row (P := Tryd.prog) (fn := Tryd.f33) rfl _ w14 w.heap.size _ _ _ _ rfl B14 Tryd.underlying27 rfl (by kernel_rfl)) rfl ?_
        rw [← HP.out]
        refine ⟨t, sF, v, by unfold tokS badS; rw [HRW.out]; simp only [hy, if_true], htb, rfl, ?_, RdrAt.exc hT13.rd hX14 (.inl hg), hT13.ex.above hX14 (Nat.le_refl _)⟩
        refine ⟨A7, c7, by rw [htg]; exact hv7, by rw [htg]; exact h7c, ?_⟩
        rw [htg]
        have hq13 := hT13.hq
        have e : only w14 (q + 1) w13.heap.size = only w13 (q + 1) w13.heap.size := hX14.only (Nat.le_refl _) (.inr (by omega))
        rw [← e] at h7S
        exact h7S.mono (only_wide (by omega) hX14.size)
      · have hy1 : (sF.2 != 0) = true := by simpa using hy
        rw [hy1] at hbad
        obtain ⟨w14, hr14, B14, hX14⟩ := store_part hT13.rs 0 (tokA zTok (.slice none 0 0)) [] [.string ⟨#[]⟩, .int .i64 0, .slice none 0 0, .int .u8 0, .int .u8 0, .int .u8 0, .int .u8 0, .int .u8 0, .int .u8 0, .int .u8 0, .int .u8 0, .int .u8 0, .int .u8 0, .int .u8 0, .int .u8 0, .int .u8 0, .int .u8 0, .int .u8 0, .int .u8 0, .int .u8 0, .int .u8 0, .int .u8 0, .int .u8 0, .int .u8 0, .int .u8 0, .int .u8 0, .int .u8 0, .int .u8 0, .int .u8 0, .int .u8 0, .int .u8 0, .int .u8 0, .int .u8 0, .int .u8 0, .int .u8 0] [] rfl rfl rfl 27 (by kernel_rfl) (one_tok _ _ rfl)
        have B14 : Blk w14 w.heap.size 27 (tokA zTok (.slice none 0 0)) := by simpa using B14
        go_upto_region 10 with (go_at_call 36; (with_reducible refine hbad.mono ?_); rintro e w9 ⟨rfl, rfl⟩)
        refine wp_region_lit ?_
        (first | (refine pl_off (a' := ?_) rfl (by rfl) ?_ ?_; rotate_left 1; (· simp only [Act.put, List.setIfInBounds_toArray, List.set_cons_zero, List.set_cons_succ]; rfl)) | (refine pl_y (v := ?_) (a' := ?_) rfl (by rfl) ?_ ?_ ?_; rotate_left 2; (· go_simp; with_reducible rfl); (· simp only [Act.put, List.setIfInBounds_toArray, List.set_cons_zero, List.set_cons_succ]; rfl)))
        refine pl_store (by rfl) rfl (run_op_store rfl ?_ ?_ hr14) ?_
        · rfl
        · rfl
        refine wpList_nil ?_
        go_wp2_with fail
        refine bodyPost_ret (v := .agg (tokA zTok (.slice none 0 0))) (results_cell_row (P := Tryd.prog) (fn := Tryd.f33) rfl _ w14 w.heap.size _ _ _ _ rfl B14 Tryd.underlying27 rfl (by kernel_rfl)) rfl ?_
        rw [← HP.out]
        exact ⟨zTok, sF, _, by unfold tokS badS; rw [HRW.out]; simp only [hy, if_false], zTok_bd, rfl, GsV.nil _, RdrAt.exc hT13.rd hX14 (.inl hg), hT13.ex.above hX14 (Nat.le_refl _)⟩
end Go.Proofs.YtjcpgjnogcmalaaDoor

/-! Numbers, texts, digests laid behind any bytes, by the program: the bytes are the call's own then. -/
namespace Go.Proofs.YtjcpgjnogcmalaaDoor
set_option linter.unusedVariables false
set_option linter.unusedSimpArgs false
open Go.RowKit
/-- Bytes that can be read, at most N of them. -/
def Buf (N : Nat) (w : World) (v : Value) (L : List UInt8) : Prop := ∃ A c, v = .slice A L.length c ∧ L.length ≤ c ∧ Rd.u8.Sl w A L.length L ∧ L.length ≤ N
theorem OwnN.buf {B N : Nat} {w : World} {v : Value} {L : List UInt8} (h : OwnN B N w v L) : Buf N w v L := by
  obtain ⟨A, c, e, h1, h2⟩ := h.1.sl
  exact ⟨A, c, e, h1, h2, h.2.1⟩
theorem Buf.nil (w : World) : Buf 0 w (.slice none 0 0) [] := ⟨none, 0, rfl, Nat.le_refl _, Rd.Sl.none _ _ none, Nat.le_refl _⟩
theorem Buf.ext {N : Nat} {w w' : World} {v : Value} {L : List UInt8} (h : Buf N w v L) (hE : Ext w w') : Buf N w' v L := by
  obtain ⟨A, c, e, h1, h2, h3⟩ := h
  exact ⟨A, c, e, h1, h2.ext hE, h3⟩
theorem OwnN.wide {B N N' : Nat} {w : World} {v : Value} {L : List UInt8} (h : OwnN B N w v L) (hN : N ≤ N') : OwnN B N' w v L := ⟨h.1, Nat.le_trans h.2.1 hN, h.2.2⟩
theorem OwnN.mk' {B N : Nat} {w w' : World} {u : Value} {L : List UInt8} {m : Nat} (hu : w'.ownsRow w.heap.size 5 1 u m (L.flatMap encB)) (hm : L.length = m) (hN : L.length ≤ N) (hB : B ≤ w.heap.size) (hE : Ext w w') : OwnN B N w' u L := by
  subst hm
  exact ⟨own_base hu hB, hN, Nat.le_trans hB hE.le⟩
section
variable {N : Nat} {w : World} {v : Value} {L : List UInt8} (h : Buf N w v L) (hN : N ≤ 1000000000) (B : Nat) (hB : B ≤ w.heap.size)
include h hN hB
theorem intL (x : Int) (hx : intOk x) : Calls Tryd.prog 18 #[v, .int .i64 x] w fun e w' => ∃ u, e = .returned u ∧ OwnN B (N + 8) w' u (L ++ num8 x) ∧ Ext w w' := by
  obtain ⟨A, c, rfl, h1, h2, h3⟩ := h
  refine (packInt_any w A c L h2 h1 (by omega) x hx).mono ?_
  rintro e w' ⟨u, rfl, hu, hE⟩
  exact ⟨u, rfl, OwnN.mk' hu (by rw [List.length_append, num8_len]) (by rw [List.length_append, num8_len]; omega) hB hE, hE⟩
theorem textL (s : ByteArray) (hs : s.size ≤ 1048576) : Calls Tryd.prog 19 #[v, .string s] w fun e w' => ∃ u, e = .returned u ∧ OwnN B (N + 1048584) w' u (L ++ txtB s) ∧ Ext w w' := by
  obtain ⟨A, c, rfl, h1, h2, h3⟩ := h
  refine (packText_any w A c L h2 h1 (by omega) s (by omega)).mono ?_
  rintro e w' ⟨u, rfl, hu, hE⟩
  have e1 : s.data.toList.length = s.size := by rw [Array.length_toList]; rfl
  rw [List.append_assoc] at hu
  exact ⟨u, rfl, OwnN.mk' (L := L ++ txtB s) hu (by rw [List.length_append, txtB_len]; omega) (by rw [List.length_append, txtB_len]; omega) hB hE, hE⟩
end
theorem macA_sl {w : World} {g : Nat} {T : TypeId} {m : List UInt8} (B : Blk w g T (macA m)) (hm : m.length = 32) : Rd.u8.Sl w (some ⟨g, 0, none⟩) 32 m := by
  refine ⟨hm, fun _ => ⟨g, 0, rfl, fun i hi => ⟨[_], rfl, fun j u hu => ?_⟩⟩⟩
  have h4 := macA_at m i (by omega)
  obtain ⟨rfl, rfl⟩ : j = 0 ∧ _ = u := by
    cases j with
    | zero => simp at hu; exact ⟨rfl, hu⟩
    | succ j => simp at hu
  have := B.cell i h4
  unfold mb at this
  rw [List.getD_eq_getElem?_getD, List.getElem?_eq_getElem (by omega)] at this
  simpa [Rd.u8] using this
set_option maxHeartbeats 1000000 in
set_option maxRecDepth 100000 in
theorem sumL {N : Nat} {w : World} {v : Value} {L : List UInt8} (h : Buf N w v L) (hN : N ≤ 1000000000) (B : Nat) (hB : B ≤ w.heap.size) (m : List UInt8) (hm : m.length = 32) :
    Calls Tryd.prog 64 #[v, .agg (macA m)] w fun e w' => ∃ u, e = .returned u ∧ OwnN B (N + 32) w' u (L ++ m) ∧ Ext w w' := by
  obtain ⟨A, c, rfl, h1, h2, h3⟩ := h
  obtain ⟨W, hW, hE, -⟩ := box1 w (macA m) 25
  have B1 : Blk W w.heap.size 25 (macA m) := by rw [hW]; exact Blk.new _ _ _
  have hla := laidB_any W A c L (h2.ext hE) h1 (by omega) (some ⟨w.heap.size, 0, none⟩) 32 m (by rw [hm]; exact macA_sl B1 hm) (by omega) (by omega)
  rw [hm] at hla
  generalize macA m = M at *
  obtain ⟨n, hln⟩ : ∃ n, L.length = n := ⟨_, rfl⟩
  rw [hln] at hla h1 h3 ⊢
  have HL := Lib.hid hln
  clear h2 B1 hln
  go_enter Tryd.func64, Tryd.ntmps64
  go_upto_region 1 with fail
  rw [← hW]
  clear hW
  go_wp2_with (go_at_call 50; (with_reducible refine hla.mono ?_); rintro e w1 ⟨u, rfl, hu, hE1⟩)
  go_ret
  exact ⟨u, rfl, OwnN.mk' (w := W) hu (by rw [List.length_append, hm, HL.out]) (by rw [List.length_append, hm, HL.out]; omega) (Nat.le_trans hB hE.le) hE1, hE.trans hE1⟩
set_option maxHeartbeats 1000000 in
set_option maxRecDepth 100000 in
theorem tintsL {N : Nat} {w : World} {v : Value} {L : List UInt8} (h : Buf N w v L) (B : Nat) (hB : B ≤ w.heap.size) (A : Option Addr) (c : Nat) (xs : List Int) (hS : (Rd.int .i64).Sl w A xs.length xs) (hc : xs.length ≤ c) (h0 : 0 < xs.length) (hn : xs.length ≤ 100) (hx : ∀ x ∈ xs, intOk x) (hN : N ≤ 900000000) :
    Calls Tryd.prog 63 #[v, .slice A xs.length c] w fun e w' => ∃ u, e = .returned u ∧ OwnN B (N + 8 * xs.length) w' u (L ++ numsB xs) ∧ Ext w w' := by
  obtain ⟨n, hln⟩ : ∃ n, xs.length = n := ⟨_, rfl⟩
  rw [hln] at hS hc h0 hn ⊢
  have HL := Lib.hid hln
  clear hln
  go_enter Tryd.func63, Tryd.ntmps63
  go_wp2_with fail
  go_loopw [0, 9] (fun s i wr => ∃ k : Nat, k ≤ n ∧ i = .int .i64 k ∧ Buf (N + 8 * k) wr s (L ++ numsB (xs.take k)) ∧ (0 < k → OwnN B (N + 8 * k) wr s (L ++ numsB (xs.take k))) ∧ Ext w wr) (fun _ i _ => n - (intOf i).toNat)
  case atStart => exact ⟨0, by omega, rfl, by simpa [numsB] using h, (fun h => absurd h (Nat.lt_irrefl 0)), Ext.refl _⟩
  case round =>
    obtain ⟨k, hkn, rfl, hb, ho, hwr⟩ := hrel
    by_cases hlt : k < n
    · obtain ⟨b, o, cs, rfl, hK, hcell⟩ := hS.get k hlt
      have hl := HL.out
      have hone := numsB_one xs k (by omega)
      have hxk := hx _ (List.getElem_mem (l := xs) (n := k) (by omega))
      generalize xs[k]'(by omega) = x at *
      have x0 : wr.cell? ⟨b, o + k, none⟩ = some (.int .i64 x) := hwr.cellk (by have := hcell 0 _ (by rw [show cs = [_] from hK]; rfl); simpa [Rd.int] using this)
      have hi := intL hb (by omega) B (Nat.le_trans hB hwr.le) x hxk
      rw [List.append_assoc, ← hone] at hi
      have hi := hi.mono (R' := fun e w' => ∃ u, e = .returned u ∧ OwnN B (N + 8 * (k + 1)) w' u (L ++ numsB (xs.take (k + 1))) ∧ Ext wr w') (by rintro e w' ⟨u, rfl, h1, h2⟩; exact ⟨u, rfl, h1.wide (by omega), h2⟩)
      clear hS hK hcell hone hxk ho hl
      go_wp2_with (go_at_call 18; (with_reducible refine hi.mono ?_); rintro e w9 ⟨v9, rfl, hO9, hE9⟩)
      go_roundw
      case rel => first | exact ⟨k + 1, by omega, by go_num, hO9.buf, (fun _ => hO9), hwr.trans hE9⟩ | ((repeat apply Exists.intro); exact ⟨⟨k + 1, by omega, by go_num, hO9.buf, (fun _ => hO9), hwr.trans hE9⟩, rfl⟩)
      case measure => simp [intOf]; omega
    · obtain rfl : k = n := by omega
      have ho := ho h0
      rw [← HL.out, List.take_length, HL.out] at ho
      clear hS hb
      go_wp2_with fail
      go_ret
      exact ⟨_, rfl, ho, hwr⟩
def txtsB (l : List ByteArray) : List UInt8 := l.flatMap txtB
theorem txtsB_one (l : List ByteArray) (k : Nat) (h : k < l.length) : txtsB (l.take (k + 1)) = txtsB (l.take k) ++ txtB l[k] := by
  unfold txtsB
  rw [List.take_succ_eq_append_getElem h, List.flatMap_append]
  simp
end Go.Proofs.YtjcpgjnogcmalaaDoor

/-! Grants and tokens laid behind bytes, by the program. -/
namespace Go.Proofs.YtjcpgjnogcmalaaDoor
set_option linter.unusedVariables false
set_option linter.unusedSimpArgs false
open Go.RowKit
theorem ints_sl {w : World} {g : Nat} (xs : List Int) (b : Blk w g 3 (xs.map (Value.int .i64)).toArray) : (Rd.int .i64).Sl w (some ⟨g, 0, none⟩) xs.length xs := by
  refine ⟨rfl, fun _ => ⟨g, 0, rfl, fun i hi => ⟨[_], rfl, fun j u hu => ?_⟩⟩⟩
  obtain ⟨rfl, rfl⟩ : j = 0 ∧ _ = u := by
    cases j with
    | zero => simp at hu; exact ⟨rfl, hu⟩
    | succ j => simp at hu
  have := b.cell i (v := .int .i64 xs[i]) (by simp [hi])
  simpa [Rd.int] using this
theorem txts_sl {w : World} {g : Nat} (xs : List ByteArray) (b : Blk w g 9 (xs.map Value.string).toArray) : Rd.str.Sl w (some ⟨g, 0, none⟩) xs.length xs := by
  refine ⟨rfl, fun _ => ⟨g, 0, rfl, fun i hi => ⟨[_], rfl, fun j u hu => ?_⟩⟩⟩
  obtain ⟨rfl, rfl⟩ : j = 0 ∧ _ = u := by
    cases j with
    | zero => simp at hu; exact ⟨rfl, hu⟩
    | succ j => simp at hu
  have := b.cell i (v := .string xs[i]) (by simp [hi])
  simpa [Rd.str] using this
section
variable {N : Nat} {w : World} {v : Value} {L : List UInt8} {g : Nat} (h : Buf N w v L) (B : Nat) (hB : B ≤ w.heap.size) (hN : N ≤ 900000000)
include h hB hN
theorem tints1 (x : Int) (b : Blk w g 3 #[.int .i64 x]) (hx : intOk x) : Calls Tryd.prog 63 #[v, .slice (some ⟨g, 0, none⟩) 1 1] w fun e w' => ∃ u, e = .returned u ∧ OwnN B (N + 8) w' u (L ++ num8 x) ∧ Ext w w' := by
  have := tintsL h B hB _ 1 [x] (ints_sl [x] b) (Nat.le_refl _) (by simp) (by simp) (fun y hy => by simp at hy; subst hy; exact hx) hN
  simpa [numsB] using this
theorem tints2 (x y : Int) (b : Blk w g 3 #[.int .i64 x, .int .i64 y]) (hx : intOk x) (hy : intOk y) : Calls Tryd.prog 63 #[v, .slice (some ⟨g, 0, none⟩) 2 2] w fun e w' => ∃ u, e = .returned u ∧ OwnN B (N + 16) w' u (L ++ (num8 x ++ num8 y)) ∧ Ext w w' := by
  have := tintsL h B hB _ 2 [x, y] (ints_sl [x, y] b) (Nat.le_refl _) (by simp) (by simp) (fun z hz => by simp at hz; rcases hz with rfl | rfl <;> assumption) hN
  simpa [numsB] using this
theorem tints3 (x y z : Int) (b : Blk w g 3 #[.int .i64 x, .int .i64 y, .int .i64 z]) (hx : intOk x) (hy : intOk y) (hz : intOk z) : Calls Tryd.prog 63 #[v, .slice (some ⟨g, 0, none⟩) 3 3] w fun e w' => ∃ u, e = .returned u ∧ OwnN B (N + 24) w' u (L ++ (num8 x ++ (num8 y ++ num8 z))) ∧ Ext w w' := by
  have := tintsL h B hB _ 3 [x, y, z] (ints_sl [x, y, z] b) (Nat.le_refl _) (by simp) (by simp) (fun q hq => by simp at hq; rcases hq with rfl | rfl | rfl <;> assumption) hN
  simpa [numsB] using this
end
theorem b2i_ok (x : Bool) : intOk (b2i x) := by cases x <;> simp [intOk, b2i]
set_option maxHeartbeats 1000000 in
set_option maxRecDepth 100000 in
theorem one_any (x : Bool) (w : World) : Calls Tryd.prog 88 #[.bool x] w fun e w' => e = .returned (.int .i64 (b2i x)) ∧ Ext w w' := by
  cases x
  · go_enter Tryd.func88, Tryd.ntmps88
    go_wp2_with fail
    go_ret
    exact ⟨rfl, Ext.refl _⟩
  · go_enter Tryd.func88, Tryd.ntmps88
    go_wp2_with fail
    go_ret
    exact ⟨rfl, Ext.refl _⟩
structure GrFit (g : Grant) : Prop where
  r : intOk g.r
  p : g.p.size ≤ 1048576
  u : intOk g.u
set_option maxHeartbeats 9000000 in
set_option maxRecDepth 100000 in
theorem bytesOfL {N : Nat} {w : World} {v : Value} {L : List UInt8} (h : Buf N w v L) (B : Nat) (hB : B ≤ w.heap.size) (hN : N ≤ 800000000) (g : Grant) (hg : GrFit g) :
    Calls Tryd.prog 61 #[v, .agg (grA g)] w fun e w' => ∃ u, e = .returned u ∧ OwnN B (N + 1048608) w' u (L ++ gB g) ∧ Ext w w' := by
  obtain ⟨W, hW, hE, bx⟩ := box1 w (grA g) 35
  have x0 : W.cell? ⟨w.heap.size, 0, none⟩ = some (.int .i64 g.r) := bx 0 _ rfl
  have xr0 := fun (w' : World) (h : Ext W w') => h.cellk x0
  clear x0
  have x1 : W.cell? ⟨w.heap.size, 1, none⟩ = some (.string g.p) := bx 1 _ rfl
  have xr1 := fun (w' : World) (h : Ext W w') => h.cellk x1
  clear x1
  have x2 : W.cell? ⟨w.heap.size, 2, none⟩ = some (.bool g.x) := bx 2 _ rfl
  have xr2 := fun (w' : World) (h : Ext W w') => h.cellk x2
  clear x2
  have x3 : W.cell? ⟨w.heap.size, 3, none⟩ = some (.int .i64 g.u) := bx 3 _ rfl
  have xr3 := fun (w' : World) (h : Ext W w') => h.cellk x3
  clear x3
  have hb := h.ext hE
  have hB := Nat.le_trans hB hE.le
  have hY : Ext W W := Ext.refl W
  obtain ⟨P, hP⟩ : ∃ P : Ending → World → Prop, (fun e w' => ∃ u, e = .returned u ∧ OwnN B (N + 1048608) w' u (L ++ gB g) ∧ Ext w w') = P := ⟨_, rfl⟩
  rw [hP]
  have HP := Lib.hid hP
  generalize grA g = G at *
  clear bx h hP
  go_enter Tryd.func61, Tryd.ntmps61
  go_upto_region 1 with fail
  rw [← hW]
  clear hW
  refine wp_region_noPanic ?_
  refine tr_start (.y 0 (.y 1 (.y 2 (.y 5 (.y 6 (.y 8 (.y 9 (.y 11 (.y 12 (.e 3 (.e 4 (.e 7 (.e 10 (.e 13 (.e 14 (.y 15 .nil)))))))))))))))) (fun w' => Ext W w') (by kernel_rfl) (by as_aux_lemma => kernel_rfl) (fun _ _ _ _ _ h => h) (by (repeat (first | assumption | exact Ext.refl _ | refine Ext.drew ?_ | refine Ext.alloc ?_ _ | refine Ext.drewN ?_ _ | refine Ext.trans ?_ (by assumption)))) ?_
  have e0 : Ext W W.drew := (Ext.refl _).drew
  generalize W.drew = q0 at e0 ⊢
  have hY0 := hY.trans e0
  (first | (refine tr_off (a' := ?_) rfl rfl (by rfl) ?_ ?_; rotate_left 1; (· simp only [Act.put, List.setIfInBounds_toArray, List.set_cons_zero, List.set_cons_succ]; rfl)) | (refine tr_y (v := ?_) (a' := ?_) rfl rfl (by rfl) (fun w' hw' => ?_) ?_ ?_; rotate_left 2; (· go_simp; with_reducible rfl); (· simp only [Act.put, List.setIfInBounds_toArray, List.set_cons_zero, List.set_cons_succ]; rfl)))
  (first | (refine tr_off (a' := ?_) rfl rfl (by rfl) ?_ ?_; rotate_left 1; (· simp only [Act.put, List.setIfInBounds_toArray, List.set_cons_zero, List.set_cons_succ]; rfl)) | (refine tr_y (v := ?_) (a' := ?_) rfl rfl (by rfl) (fun w' hw' => ?_) ?_ ?_; rotate_left 2; (· go_simp; with_reducible rfl); (· simp only [Act.put, List.setIfInBounds_toArray, List.set_cons_zero, List.set_cons_succ]; rfl)))
  (first | (refine tr_off (a' := ?_) rfl rfl (by rfl) ?_ ?_; rotate_left 1; (· simp only [Act.put, List.setIfInBounds_toArray, List.set_cons_zero, List.set_cons_succ]; rfl)) | (refine tr_y (v := ?_) (a' := ?_) rfl rfl (by rfl) (fun w' hw' => ?_) ?_ ?_; rotate_left 2; (· go_simp; with_reducible rfl); (· simp only [Act.put, List.setIfInBounds_toArray, List.set_cons_zero, List.set_cons_succ]; rfl)))
  (first | (refine tr_off (a' := ?_) rfl rfl (by rfl) ?_ ?_; rotate_left 1; (· simp only [Act.put, List.setIfInBounds_toArray, List.set_cons_zero, List.set_cons_succ]; rfl)) | (refine tr_y (v := ?_) (a' := ?_) rfl rfl (by rfl) (fun w' hw' => ?_) ?_ ?_; rotate_left 2; (· go_simp; with_reducible rfl); (· simp only [Act.put, List.setIfInBounds_toArray, List.set_cons_zero, List.set_cons_succ]; rfl)))
  (first | (refine tr_off (a' := ?_) rfl rfl (by rfl) ?_ ?_; rotate_left 1; (· simp only [Act.put, List.setIfInBounds_toArray, List.set_cons_zero, List.set_cons_succ]; rfl)) | (refine tr_y (v := ?_) (a' := ?_) rfl rfl (by rfl) (fun w' hw' => ?_) ?_ ?_; rotate_left 2; (· go_simp; with_reducible rfl); (· simp only [Act.put, List.setIfInBounds_toArray, List.set_cons_zero, List.set_cons_succ]; rfl)))
  (first | (refine tr_off (a' := ?_) rfl rfl (by rfl) ?_ ?_; rotate_left 1; (· simp only [Act.put, List.setIfInBounds_toArray, List.set_cons_zero, List.set_cons_succ]; rfl)) | (refine tr_y (v := ?_) (a' := ?_) rfl rfl (by rfl) (fun w' hw' => ?_) ?_ ?_; rotate_left 2; (· go_simp; with_reducible rfl); (· simp only [Act.put, List.setIfInBounds_toArray, List.set_cons_zero, List.set_cons_succ]; rfl)))
  (first | (refine tr_off (a' := ?_) rfl rfl (by rfl) ?_ ?_; rotate_left 1; (· simp only [Act.put, List.setIfInBounds_toArray, List.set_cons_zero, List.set_cons_succ]; rfl)) | (refine tr_y (v := ?_) (a' := ?_) rfl rfl (by rfl) (fun w' hw' => ?_) ?_ ?_; rotate_left 2; (· go_simp; with_reducible rfl); (· simp only [Act.put, List.setIfInBounds_toArray, List.set_cons_zero, List.set_cons_succ]; rfl)))
  (first | (refine tr_off (a' := ?_) rfl rfl (by rfl) ?_ ?_; rotate_left 1; (· simp only [Act.put, List.setIfInBounds_toArray, List.set_cons_zero, List.set_cons_succ]; rfl)) | (refine tr_y (v := ?_) (a' := ?_) rfl rfl (by rfl) (fun w' hw' => ?_) ?_ ?_; rotate_left 2; (· go_simp; with_reducible rfl); (· simp only [Act.put, List.setIfInBounds_toArray, List.set_cons_zero, List.set_cons_succ]; rfl)))
  (first | (refine tr_off (a' := ?_) rfl rfl (by rfl) ?_ ?_; rotate_left 1; (· simp only [Act.put, List.setIfInBounds_toArray, List.set_cons_zero, List.set_cons_succ]; rfl)) | (refine tr_y (v := ?_) (a' := ?_) rfl rfl (by rfl) (fun w' hw' => ?_) ?_ ?_; rotate_left 2; (· go_simp; with_reducible rfl); (· simp only [Act.put, List.setIfInBounds_toArray, List.set_cons_zero, List.set_cons_succ]; rfl)))
  have b8 := Blk.new q0 3 #[.int .i64 g.r]
  have e1 : Ext q0 (q0.alloc (.cells #[.int .i64 g.r] 3)) := (Ext.refl _).alloc _
  have hY1 := hY0.trans e1
  refine tr_value (v := ?_) (w1 := ?_) (a' := ?_) rfl rfl (by rfl) ?_ ?_ ?_ ?_
  rotate_left 3
  · go_simp; refine ⟨?_, ?_⟩ <;> with_reducible rfl
  · exact hY1
  · simp only [Act.put, List.setIfInBounds_toArray, List.set_cons_zero, List.set_cons_succ]; rfl
  have l8 : W.heap.size ≤ q0.heap.size := Ext.le hY0
  generalize q0.alloc (.cells #[.int .i64 g.r] 3) = q1 at b8 e1 hY1 ⊢
  generalize q0.heap.size = g8 at b8 l8 ⊢
  refine tr_call (args := ?_) rfl Tryd.func63 (by kernel_rfl) rfl (by rfl) rfl rfl ?_ ?_
  rotate_left 1
  · go_simp; rfl
  (with_reducible refine (tints1 (hb.ext hY1) B (Nat.le_trans hB (Ext.le hY1)) (by omega) g.r b8 hg.r).mono ?_)
  rintro e q2 ⟨u9, rfl, hO9, e2⟩
  have hY2 := hY1.trans e2
  refine ⟨_, _, rfl, hY2, (by simp only [Act.put, List.setIfInBounds_toArray, List.set_cons_zero, List.set_cons_succ]; rfl), ?_⟩
  refine tr_call (args := ?_) rfl Tryd.func19 (by kernel_rfl) rfl (by rfl) rfl rfl ?_ ?_
  rotate_left 1
  · go_simp; rfl
  (with_reducible refine (textL hO9.buf (by omega) B (Nat.le_trans hB (Ext.le hY2)) g.p hg.p).mono ?_)
  rintro e q3 ⟨u12, rfl, hO12, e3⟩
  have hY3 := hY2.trans e3
  refine ⟨_, _, rfl, hY3, (by simp only [Act.put, List.setIfInBounds_toArray, List.set_cons_zero, List.set_cons_succ]; rfl), ?_⟩
  refine tr_call (args := ?_) rfl Tryd.func88 (by kernel_rfl) rfl (by rfl) rfl rfl ?_ ?_
  rotate_left 1
  · go_simp; rfl
  (with_reducible refine (one_any g.x _).mono ?_)
  rintro e q4 ⟨rfl, e4⟩
  have hY4 := hY3.trans e4
  refine ⟨_, _, rfl, hY4, (by simp only [Act.put, List.setIfInBounds_toArray, List.set_cons_zero, List.set_cons_succ]; rfl), ?_⟩
  have b18 := Blk.new q4 3 #[.int .i64 (b2i g.x), .int .i64 g.u]
  have e5 : Ext q4 (q4.alloc (.cells #[.int .i64 (b2i g.x), .int .i64 g.u] 3)) := (Ext.refl _).alloc _
  have hY5 := hY4.trans e5
  refine tr_value (v := ?_) (w1 := ?_) (a' := ?_) rfl rfl (by rfl) ?_ ?_ ?_ ?_
  rotate_left 3
  · go_simp; refine ⟨?_, ?_⟩ <;> with_reducible rfl
  · exact hY5
  · simp only [Act.put, List.setIfInBounds_toArray, List.set_cons_zero, List.set_cons_succ]; rfl
  have l18 : W.heap.size ≤ q4.heap.size := Ext.le hY4
  generalize q4.alloc (.cells #[.int .i64 (b2i g.x), .int .i64 g.u] 3) = q5 at b18 e5 hY5 ⊢
  generalize q4.heap.size = g18 at b18 l18 ⊢
  refine tr_call (args := ?_) rfl Tryd.func63 (by kernel_rfl) rfl (by rfl) rfl rfl ?_ ?_
  rotate_left 1
  · go_simp; rfl
  (with_reducible refine (tints2 (hO12.ext (e4.trans e5)).buf B (Nat.le_trans hB (Ext.le hY5)) (by omega) (b2i g.x) g.u b18 (b2i_ok _) hg.u).mono ?_)
  rintro e q6 ⟨u19, rfl, hO19, e6⟩
  have hY6 := hY5.trans e6
  refine ⟨_, _, rfl, hY6, (by simp only [Act.put, List.setIfInBounds_toArray, List.set_cons_zero, List.set_cons_succ]; rfl), ?_⟩
  (first | (refine tr_off (a' := ?_) rfl rfl (by rfl) ?_ ?_; rotate_left 1; (· simp only [Act.put, List.setIfInBounds_toArray, List.set_cons_zero, List.set_cons_succ]; rfl)) | (refine tr_y (v := ?_) (a' := ?_) rfl rfl (by rfl) (fun w' hw' => ?_) ?_ ?_; rotate_left 2; (· go_simp; with_reducible rfl); (· simp only [Act.put, List.setIfInBounds_toArray, List.set_cons_zero, List.set_cons_succ]; rfl)))
  refine tr_end ?_
  refine NoPanic.normal ?_
  go_wp2_with fail
  rw [← HP.out]
  exact ⟨u19, rfl, (hO19.re (by simp [gB])).wide (by omega), hE.trans hY6⟩
theorem key4 {α β γ δ : Type} {p : Prop} (F G : α → β → γ → δ → Prop) (h : (∀ a b c d, F a b c d → G a b c d) → p) (k : ∀ a b c d, F a b c d → G a b c d) : p := h k
structure TokFit (t : Tok) : Prop where
  ten : t.ten.size ≤ 1048576
  id : intOk t.id
  n : t.gs.length ≤ 100
  g : ∀ g ∈ t.gs, GrFit g
  mac : t.mac.length = 32
theorem gB_len (g : Grant) (h : GrFit g) : (gB g).length ≤ 1048608 := by
  have := h.p
  unfold gB
  simp only [List.length_append, num8_len, txtB_len]
  omega
theorem gsB_one (l : List Grant) (k : Nat) (h : k < l.length) : (l.take (k + 1)).flatMap gB = (l.take k).flatMap gB ++ gB l[k] := by
  rw [List.take_succ_eq_append_getElem h, List.flatMap_append]
  simp
set_option maxHeartbeats 9000000 in
set_option maxRecDepth 100000 in
theorem tputL {N : Nat} {w : World} {v : Value} {L : List UInt8} (h : Buf N w v L) (B : Nat) (hB : B ≤ w.heap.size) (hN : N ≤ 500000000) (t : Tok) (ht : TokFit t) (a : Value) (hG : GsV w t.gs a) :
    Calls Tryd.prog 30 #[v, .agg (tokA t a)] w fun e w' => ∃ u, e = .returned u ∧ OwnN B (N + 110000000) w' u (L ++ tokB t) ∧ Ext w w' := by
  obtain ⟨A, c, rfl, hc, hS⟩ := hG
  obtain ⟨W, hW, hE, bx⟩ := box1 w (tokA t (.slice A t.gs.length c)) 27
  have B1 : Blk W w.heap.size 27 (tokA t (.slice A t.gs.length c)) := by rw [hW]; exact Blk.new _ _ _
  have x0 : W.cell? ⟨w.heap.size, 0, none⟩ = some (.string t.ten) := bx 0 _ rfl
  have xr0 := fun (w' : World) (h : Ext W w') => h.cellk x0
  clear x0
  have x1 : W.cell? ⟨w.heap.size, 1, none⟩ = some (.int .i64 t.id) := bx 1 _ rfl
  have xr1 := fun (w' : World) (h : Ext W w') => h.cellk x1
  clear x1
  have x2 : W.cell? ⟨w.heap.size, 2, none⟩ = some (.slice A t.gs.length c) := bx 2 _ rfl
  have xr2 := fun (w' : World) (h : Ext W w') => h.cellk x2
  clear x2
  have lm := fun (w' : World) (e : Ext W w') => load_part (B1.ext e) 3 (macA t.mac) [.string t.ten, .int .i64 t.id, .slice A t.gs.length c] [] rfl rfl 25 _ Tryd.underlying25 rfl (by kernel_rfl)
  have hb := h.ext hE
  have hB := Nat.le_trans hB hE.le
  have hY : Ext W W := Ext.refl W
  have hnl : intOk (t.gs.length : Int) := by have := ht.n; unfold intOk; omega
  obtain ⟨P, hP⟩ : ∃ P : Ending → World → Prop, (fun e w' => ∃ u, e = .returned u ∧ OwnN B (N + 110000000) w' u (L ++ tokB t) ∧ Ext w w') = P := ⟨_, rfl⟩
  rw [hP]
  have HP := Lib.hid hP
  obtain ⟨n, hln⟩ : ∃ n, t.gs.length = n := ⟨_, rfl⟩
  have hn := ht.n
  have hsm := fun (N' : Nat) (w' : World) (v' : Value) (L' : List UInt8) (h1 : Buf N' w' v' L') (h2 : N' ≤ 1000000000) (h3 : B ≤ w'.heap.size) => @sumL N' w' v' L' h1 h2 B h3 t.mac ht.mac
  rw [hln] at hS hc hW xr2 hnl hn ⊢
  have HL := Lib.hid hln
  generalize hMa : macA t.mac = M at lm hsm
  have HM := Lib.hid hMa
  generalize tokA t (.slice A n c) = T at *
  clear bx h hP hMa B1 hln
  go_enter Tryd.func30, Tryd.ntmps30
  go_upto_region 1 with fail
  rw [← hW]
  clear hW
  apply key4 (F := fun (g16 : Nat) (u10 u17 : Value) (wx : World) => OwnN B (N + 1048600) wx u17 (L ++ (txtB t.ten ++ (num8 t.id ++ num8 n))) ∧ Ext W wx)
  · intro key
    refine wp_region_noPanic ?_
    refine tr_start (.y 0 (.y 1 (.y 2 (.y 4 (.y 5 (.y 6 (.y 7 (.y 8 (.two 3 9 (.e 9 (.e 10 (.y 11 .nil))) (.e 3 (.e 10 (.y 11 .nil)))))))))))) (fun w' => Ext W w') (by kernel_rfl) (by as_aux_lemma => kernel_rfl) (fun _ _ _ _ _ h => h) (by (repeat (first | assumption | exact Ext.refl _ | refine Ext.drew ?_ | refine Ext.alloc ?_ _ | refine Ext.drewN ?_ _ | refine Ext.trans ?_ (by assumption)))) ?_
    have e0 : Ext W W.drew := (Ext.refl _).drew
    generalize W.drew = q0 at e0 ⊢
    have hY0 := hY.trans e0
    (first | (refine tr_off (a' := ?_) rfl rfl (by rfl) ?_ ?_; rotate_left 1; (· simp only [Act.put, List.setIfInBounds_toArray, List.set_cons_zero, List.set_cons_succ]; rfl)) | (refine tr_y (v := ?_) (a' := ?_) rfl rfl (by rfl) (fun w' hw' => ?_) ?_ ?_; rotate_left 2; (· go_simp; with_reducible rfl); (· simp only [Act.put, List.setIfInBounds_toArray, List.set_cons_zero, List.set_cons_succ]; rfl)))
    (first | (refine tr_off (a' := ?_) rfl rfl (by rfl) ?_ ?_; rotate_left 1; (· simp only [Act.put, List.setIfInBounds_toArray, List.set_cons_zero, List.set_cons_succ]; rfl)) | (refine tr_y (v := ?_) (a' := ?_) rfl rfl (by rfl) (fun w' hw' => ?_) ?_ ?_; rotate_left 2; (· go_simp; with_reducible rfl); (· simp only [Act.put, List.setIfInBounds_toArray, List.set_cons_zero, List.set_cons_succ]; rfl)))
    (first | (refine tr_off (a' := ?_) rfl rfl (by rfl) ?_ ?_; rotate_left 1; (· simp only [Act.put, List.setIfInBounds_toArray, List.set_cons_zero, List.set_cons_succ]; rfl)) | (refine tr_y (v := ?_) (a' := ?_) rfl rfl (by rfl) (fun w' hw' => ?_) ?_ ?_; rotate_left 2; (· go_simp; with_reducible rfl); (· simp only [Act.put, List.setIfInBounds_toArray, List.set_cons_zero, List.set_cons_succ]; rfl)))
    (first | (refine tr_off (a' := ?_) rfl rfl (by rfl) ?_ ?_; rotate_left 1; (· simp only [Act.put, List.setIfInBounds_toArray, List.set_cons_zero, List.set_cons_succ]; rfl)) | (refine tr_y (v := ?_) (a' := ?_) rfl rfl (by rfl) (fun w' hw' => ?_) ?_ ?_; rotate_left 2; (· go_simp; with_reducible rfl); (· simp only [Act.put, List.setIfInBounds_toArray, List.set_cons_zero, List.set_cons_succ]; rfl)))
    (first | (refine tr_off (a' := ?_) rfl rfl (by rfl) ?_ ?_; rotate_left 1; (· simp only [Act.put, List.setIfInBounds_toArray, List.set_cons_zero, List.set_cons_succ]; rfl)) | (refine tr_y (v := ?_) (a' := ?_) rfl rfl (by rfl) (fun w' hw' => ?_) ?_ ?_; rotate_left 2; (· go_simp; with_reducible rfl); (· simp only [Act.put, List.setIfInBounds_toArray, List.set_cons_zero, List.set_cons_succ]; rfl)))
    (first | (refine tr_off (a' := ?_) rfl rfl (by rfl) ?_ ?_; rotate_left 1; (· simp only [Act.put, List.setIfInBounds_toArray, List.set_cons_zero, List.set_cons_succ]; rfl)) | (refine tr_y (v := ?_) (a' := ?_) rfl rfl (by rfl) (fun w' hw' => ?_) ?_ ?_; rotate_left 2; (· go_simp; with_reducible rfl); (· simp only [Act.put, List.setIfInBounds_toArray, List.set_cons_zero, List.set_cons_succ]; rfl)))
    (first | (refine tr_off (a' := ?_) rfl rfl (by rfl) ?_ ?_; rotate_left 1; (· simp only [Act.put, List.setIfInBounds_toArray, List.set_cons_zero, List.set_cons_succ]; rfl)) | (refine tr_y (v := ?_) (a' := ?_) rfl rfl (by rfl) (fun w' hw' => ?_) ?_ ?_; rotate_left 2; (· go_simp; with_reducible rfl); (· simp only [Act.put, List.setIfInBounds_toArray, List.set_cons_zero, List.set_cons_succ]; rfl)))
    (first | (refine tr_off (a' := ?_) rfl rfl (by rfl) ?_ ?_; rotate_left 1; (· simp only [Act.put, List.setIfInBounds_toArray, List.set_cons_zero, List.set_cons_succ]; rfl)) | (refine tr_y (v := ?_) (a' := ?_) rfl rfl (by rfl) (fun w' hw' => ?_) ?_ ?_; rotate_left 2; (· go_simp; with_reducible rfl); (· simp only [Act.put, List.setIfInBounds_toArray, List.set_cons_zero, List.set_cons_succ]; rfl)))
    refine tr_two ?_ ?_
    · refine tr_call (args := ?_) rfl Tryd.func19 (by kernel_rfl) rfl (by rfl) rfl rfl ?_ ?_
      rotate_left 1
      · go_simp; rfl
      (with_reducible refine (textL (hb.ext hY0) (by omega) B (Nat.le_trans hB (Ext.le hY0)) t.ten ht.ten).mono ?_)
      rintro e q1 ⟨u10, rfl, hO10, e1⟩
      have hY1 := hY0.trans e1
      refine ⟨_, _, rfl, hY1, (by simp only [Act.put, List.setIfInBounds_toArray, List.set_cons_zero, List.set_cons_succ]; rfl), ?_⟩
      have b16 := Blk.new q1 3 #[.int .i64 t.id, .int .i64 n]
      have e2 : Ext q1 (q1.alloc (.cells #[.int .i64 t.id, .int .i64 n] 3)) := (Ext.refl _).alloc _
      have hY2 := hY1.trans e2
      refine tr_value (v := ?_) (w1 := ?_) (a' := ?_) rfl rfl (by rfl) ?_ ?_ ?_ ?_
      rotate_left 3
      · go_simp; refine ⟨?_, ?_⟩ <;> with_reducible rfl
      · exact hY2
      · simp only [Act.put, List.setIfInBounds_toArray, List.set_cons_zero, List.set_cons_succ]; rfl
      have l16 : W.heap.size ≤ q1.heap.size := Ext.le hY1
      generalize q1.alloc (.cells #[.int .i64 t.id, .int .i64 n] 3) = q2 at b16 e2 hY2 ⊢
      generalize q1.heap.size = g16 at b16 l16 ⊢
      refine tr_call (args := ?_) rfl Tryd.func63 (by kernel_rfl) rfl (by rfl) rfl rfl ?_ ?_
      rotate_left 1
      · go_simp; rfl
      (with_reducible refine (tints2 (hO10.ext e2).buf B (Nat.le_trans hB (Ext.le hY2)) (by omega) t.id n b16 ht.id hnl).mono ?_)
      rintro e q3 ⟨u17, rfl, hO17, e3⟩
      have hY3 := hY2.trans e3
      refine ⟨_, _, rfl, hY3, (by simp only [Act.put, List.setIfInBounds_toArray, List.set_cons_zero, List.set_cons_succ]; rfl), ?_⟩
      (first | (refine tr_off (a' := ?_) rfl rfl (by rfl) ?_ ?_; rotate_left 1; (· simp only [Act.put, List.setIfInBounds_toArray, List.set_cons_zero, List.set_cons_succ]; rfl)) | (refine tr_y (v := ?_) (a' := ?_) rfl rfl (by rfl) (fun w' hw' => ?_) ?_ ?_; rotate_left 2; (· go_simp; with_reducible rfl); (· simp only [Act.put, List.setIfInBounds_toArray, List.set_cons_zero, List.set_cons_succ]; rfl)))
      refine tr_end ?_
      (refine NoPanic.normal ?_; exact key g16 u10 u17 q3 ⟨(hO17.re (by simp)).wide (by omega), hY3⟩)
    · have b16 := Blk.new q0 3 #[.int .i64 t.id, .int .i64 n]
      have e1 : Ext q0 (q0.alloc (.cells #[.int .i64 t.id, .int .i64 n] 3)) := (Ext.refl _).alloc _
      have hY1 := hY0.trans e1
      refine tr_value (v := ?_) (w1 := ?_) (a' := ?_) rfl rfl (by rfl) ?_ ?_ ?_ ?_
      rotate_left 3
      · go_simp; refine ⟨?_, ?_⟩ <;> with_reducible rfl
      · exact hY1
      · simp only [Act.put, List.setIfInBounds_toArray, List.set_cons_zero, List.set_cons_succ]; rfl
      have l16 : W.heap.size ≤ q0.heap.size := Ext.le hY0
      generalize q0.alloc (.cells #[.int .i64 t.id, .int .i64 n] 3) = q1 at b16 e1 hY1 ⊢
      generalize q0.heap.size = g16 at b16 l16 ⊢
      refine tr_call (args := ?_) rfl Tryd.func19 (by kernel_rfl) rfl (by rfl) rfl rfl ?_ ?_
      rotate_left 1
      · go_simp; rfl
      (with_reducible refine (textL (hb.ext hY1) (by omega) B (Nat.le_trans hB (Ext.le hY1)) t.ten ht.ten).mono ?_)
      rintro e q2 ⟨u10, rfl, hO10, e2⟩
      have hY2 := hY1.trans e2
      refine ⟨_, _, rfl, hY2, (by simp only [Act.put, List.setIfInBounds_toArray, List.set_cons_zero, List.set_cons_succ]; rfl), ?_⟩
      refine tr_call (args := ?_) rfl Tryd.func63 (by kernel_rfl) rfl (by rfl) rfl rfl ?_ ?_
      rotate_left 1
      · go_simp; rfl
      (with_reducible refine (tints2 hO10.buf B (Nat.le_trans hB (Ext.le hY2)) (by omega) t.id n (b16.ext e2) ht.id hnl).mono ?_)
      rintro e q3 ⟨u17, rfl, hO17, e3⟩
      have hY3 := hY2.trans e3
      refine ⟨_, _, rfl, hY3, (by simp only [Act.put, List.setIfInBounds_toArray, List.set_cons_zero, List.set_cons_succ]; rfl), ?_⟩
      (first | (refine tr_off (a' := ?_) rfl rfl (by rfl) ?_ ?_; rotate_left 1; (· simp only [Act.put, List.setIfInBounds_toArray, List.set_cons_zero, List.set_cons_succ]; rfl)) | (refine tr_y (v := ?_) (a' := ?_) rfl rfl (by rfl) (fun w' hw' => ?_) ?_ ?_; rotate_left 2; (· go_simp; with_reducible rfl); (· simp only [Act.put, List.setIfInBounds_toArray, List.set_cons_zero, List.set_cons_succ]; rfl)))
      refine tr_end ?_
      (refine NoPanic.normal ?_; exact key g16 u10 u17 q3 ⟨(hO17.re (by simp)).wide (by omega), hY3⟩)
  · intro g16 u10 u17 wx hkey
    obtain ⟨hO, hX⟩ := hkey
    go_wp2_with fail
    go_loopw [0, 21] (fun s i wr => ∃ k : Nat, k ≤ n ∧ i = .int .i64 k ∧ OwnN B (N + 1048600 + 1048608 * k) wr s (L ++ (txtB t.ten ++ (num8 t.id ++ (num8 n ++ (t.gs.take k).flatMap gB)))) ∧ Ext W wr) (fun _ i _ => n - (intOf i).toNat)
    case atStart => exact ⟨0, by omega, rfl, by simpa using hO, hX⟩
    case round =>
      clear hO hX
      obtain ⟨k, hkn, rfl, hO, hwr⟩ := hrel
      by_cases hlt : k < n
      · obtain ⟨b, o, cs, rfl, hK, hcell⟩ := (hS.ext (hE.trans hwr)).get k hlt
        obtain rfl := gr_cells hK
        have hl := HL.out
        have hone := gsB_one t.gs k (by omega)
        have hgf := ht.g _ (List.getElem_mem (l := t.gs) (n := k) (by omega))
        generalize t.gs[k]'(by omega) = x at *
        have x0 : wr.cell? ⟨b, o + k * 4, none⟩ = some (.int .i64 x.r) := hcell 0 _ rfl
        have x1 : wr.cell? ⟨b, o + k * 4 + 1, none⟩ = some (.string x.p) := hcell 1 _ rfl
        have x2 : wr.cell? ⟨b, o + k * 4 + 2, none⟩ = some (.bool x.x) := hcell 2 _ rfl
        have x3 : wr.cell? ⟨b, o + k * 4 + 3, none⟩ = some (.int .i64 x.u) := hcell 3 _ rfl
        have hbl := fun (w' : World) (e : Ext wr w') => (bytesOfL (hO.buf.ext e) B (Nat.le_trans hB (Nat.le_trans hwr.le e.le)) (by omega) x hgf).mono (R' := fun e9 w9 => ∃ u, e9 = .returned u ∧ OwnN B (N + 1048600 + 1048608 * (k + 1)) w9 u (L ++ (txtB t.ten ++ (num8 t.id ++ (num8 n ++ (t.gs.take (k + 1)).flatMap gB)))) ∧ Ext wr w9) (by rintro e9 w9 ⟨u, rfl, h1, h2⟩; exact ⟨u, rfl, (h1.re (by rw [hone]; simp)).wide (by omega), e.trans h2⟩)
        unfold grA at hbl
        clear hS hK hcell hone hgf hl hO
        go_wp2_with (go_at_call 61; (with_reducible refine (hbl _ (by (repeat (first | assumption | exact Ext.refl _ | refine Ext.set ?_ (Nat.le_refl _) _ | refine Ext.drew ?_ | refine Ext.alloc ?_ _ | refine Ext.drewN ?_ _ | refine Ext.trans ?_ (by assumption))))).mono ?_); rintro e w9 ⟨v9, rfl, hO9, hE9⟩)
        go_roundw
        case rel => first | exact ⟨k + 1, by omega, by go_num, hO9, hwr.trans hE9⟩ | ((repeat apply Exists.intro); exact ⟨⟨k + 1, by omega, by go_num, hO9, hwr.trans hE9⟩, rfl⟩)
        case measure => simp [intOf]; omega
      · obtain rfl : k = n := by omega
        have hs := hsm _ wr _ _ hO.buf (by omega) (Nat.le_trans hB hwr.le)
        have hl := lm wr hwr
        rw [← HL.out, List.take_length, HL.out] at hs
        clear hS hO hsm
        go_wp2_with (first | (refine wpList_load_by rfl rfl ?_ hl ?_; (· rfl)) | (go_at_call 64; (with_reducible refine hs.mono ?_); rintro e w9 ⟨v9, rfl, hO9, hE9⟩))
        rw [← HP.out]
        exact ⟨v9, rfl, (hO9.re (by simp [tokB, HL.out])).wide (by omega), hE.trans (hwr.trans hE9)⟩
end Go.Proofs.YtjcpgjnogcmalaaDoor
