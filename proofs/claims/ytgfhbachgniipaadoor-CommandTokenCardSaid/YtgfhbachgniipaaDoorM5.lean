/- Commands and answers as cells; a part of a block read and written over. (and what follows) -/
import Derived.Test.YtgfhbachgniipaaDoorM4
import Derived.Test.YtgfhbachgniipaaDoorM2
import Derived.Deep.MidRow
import Derived.DeepKeys
import Derived.Laws.StructEq
import Derived.Great.BuildSlice
import Derived.Test.YtgfhbachgniipaaDoorM1
/-! Commands and answers as cells; a part of a block read and written over. -/
namespace Go.Proofs.YtgfhbachgniipaaDoor
set_option linter.unusedVariables false
set_option linter.unusedSimpArgs false
open Go.RowKit
def mb (m : List UInt8) (i : Nat) : Value := .int .u8 (m.getD i 0).toNat
def macA (m : List UInt8) : Array Value := #[mb m 0, mb m 1, mb m 2, mb m 3, mb m 4, mb m 5, mb m 6, mb m 7, mb m 8, mb m 9, mb m 10, mb m 11, mb m 12, mb m 13, mb m 14, mb m 15, mb m 16, mb m 17, mb m 18, mb m 19, mb m 20, mb m 21, mb m 22, mb m 23, mb m 24, mb m 25, mb m 26, mb m 27, mb m 28, mb m 29, mb m 30, mb m 31]
def tokA (t : Tok) (a : Value) : Array Value := #[.string t.ten, .int .i64 t.id, a, mb t.mac 0, mb t.mac 1, mb t.mac 2, mb t.mac 3, mb t.mac 4, mb t.mac 5, mb t.mac 6, mb t.mac 7, mb t.mac 8, mb t.mac 9, mb t.mac 10, mb t.mac 11, mb t.mac 12, mb t.mac 13, mb t.mac 14, mb t.mac 15, mb t.mac 16, mb t.mac 17, mb t.mac 18, mb t.mac 19, mb t.mac 20, mb t.mac 21, mb t.mac 22, mb t.mac 23, mb t.mac 24, mb t.mac 25, mb t.mac 26, mb t.mac 27, mb t.mac 28, mb t.mac 29, mb t.mac 30, mb t.mac 31]
def grA (g : Grant) : Array Value := #[.int .i64 g.r, .string g.p, .bool g.x, .int .i64 g.u]
def cmdA (c : Cmd) (a b : Value) : Array Value := #[.int .i64 c.kind, .string c.tok.ten, .int .i64 c.tok.id, a, mb c.tok.mac 0, mb c.tok.mac 1, mb c.tok.mac 2, mb c.tok.mac 3, mb c.tok.mac 4, mb c.tok.mac 5, mb c.tok.mac 6, mb c.tok.mac 7, mb c.tok.mac 8, mb c.tok.mac 9, mb c.tok.mac 10, mb c.tok.mac 11, mb c.tok.mac 12, mb c.tok.mac 13, mb c.tok.mac 14, mb c.tok.mac 15, mb c.tok.mac 16, mb c.tok.mac 17, mb c.tok.mac 18, mb c.tok.mac 19, mb c.tok.mac 20, mb c.tok.mac 21, mb c.tok.mac 22, mb c.tok.mac 23, mb c.tok.mac 24, mb c.tok.mac 25, mb c.tok.mac 26, mb c.tok.mac 27, mb c.tok.mac 28, mb c.tok.mac 29, mb c.tok.mac 30, mb c.tok.mac 31, .string c.st, .string c.su, .int .i64 c.ex, b, .int .i64 c.fr, .int .i64 c.ct, .int .i64 c.gr.r, .string c.gr.p, .bool c.gr.x, .int .i64 c.gr.u, .int .i64 c.id]
def shA (s : Shn) (b : Value) : Array Value := #[.string s.st, .string s.su, .int .i64 s.ver, .int .i64 s.pos, .int .i64 s.code, b]
def enA (e : Ent) : Array Value := #[.int .i64 e.no, .int .i64 e.clock, .int .i64 e.kind, .int .i64 e.code, .int .i64 e.id, .string e.st, .string e.su, mb e.sum 0, mb e.sum 1, mb e.sum 2, mb e.sum 3, mb e.sum 4, mb e.sum 5, mb e.sum 6, mb e.sum 7, mb e.sum 8, mb e.sum 9, mb e.sum 10, mb e.sum 11, mb e.sum 12, mb e.sum 13, mb e.sum 14, mb e.sum 15, mb e.sum 16, mb e.sum 17, mb e.sum 18, mb e.sum 19, mb e.sum 20, mb e.sum 21, mb e.sum 22, mb e.sum 23, mb e.sum 24, mb e.sum 25, mb e.sum 26, mb e.sum 27, mb e.sum 28, mb e.sum 29, mb e.sum 30, mb e.sum 31]
def ansA (x : Ans) (s a e : Value) : Array Value := #[.int .i64 x.code, .int .i64 x.num, s, .string x.tok.ten, .int .i64 x.tok.id, a, mb x.tok.mac 0, mb x.tok.mac 1, mb x.tok.mac 2, mb x.tok.mac 3, mb x.tok.mac 4, mb x.tok.mac 5, mb x.tok.mac 6, mb x.tok.mac 7, mb x.tok.mac 8, mb x.tok.mac 9, mb x.tok.mac 10, mb x.tok.mac 11, mb x.tok.mac 12, mb x.tok.mac 13, mb x.tok.mac 14, mb x.tok.mac 15, mb x.tok.mac 16, mb x.tok.mac 17, mb x.tok.mac 18, mb x.tok.mac 19, mb x.tok.mac 20, mb x.tok.mac 21, mb x.tok.mac 22, mb x.tok.mac 23, mb x.tok.mac 24, mb x.tok.mac 25, mb x.tok.mac 26, mb x.tok.mac 27, mb x.tok.mac 28, mb x.tok.mac 29, mb x.tok.mac 30, mb x.tok.mac 31, e]
theorem macA_at (m : List UInt8) (i : Nat) (h : i < 32) : (macA m)[i]? = some (mb m i) := by
  obtain rfl | rfl | rfl | rfl | rfl | rfl | rfl | rfl | rfl | rfl | rfl | rfl | rfl | rfl | rfl | rfl | rfl | rfl | rfl | rfl | rfl | rfl | rfl | rfl | rfl | rfl | rfl | rfl | rfl | rfl | rfl | rfl := (by omega : i = 0 ∨ i = 1 ∨ i = 2 ∨ i = 3 ∨ i = 4 ∨ i = 5 ∨ i = 6 ∨ i = 7 ∨ i = 8 ∨ i = 9 ∨ i = 10 ∨ i = 11 ∨ i = 12 ∨ i = 13 ∨ i = 14 ∨ i = 15 ∨ i = 16 ∨ i = 17 ∨ i = 18 ∨ i = 19 ∨ i = 20 ∨ i = 21 ∨ i = 22 ∨ i = 23 ∨ i = 24 ∨ i = 25 ∨ i = 26 ∨ i = 27 ∨ i = 28 ∨ i = 29 ∨ i = 30 ∨ i = 31)
  all_goals rfl
theorem macA_size (m : List UInt8) : (macA m).size = 32 := rfl
theorem tokA_size (t : Tok) (a : Value) : (tokA t a).size = 35 := rfl
theorem cmdA_size (c : Cmd) (a b : Value) : (cmdA c a b).size = 47 := rfl
theorem enA_size (e : Ent) : (enA e).size = 39 := rfl
theorem ansA_size (x : Ans) (s a e : Value) : (ansA x s a e).size = 39 := rfl
/-- C is the cells D with others ahead of them and behind. -/
theorem part_at {C : Array Value} {pre D post : List Value} (h : C = (pre ++ D ++ post).toArray) {o : Nat} (ho : pre.length = o) (j : Nat) (v : Value) (hv : D[j]? = some v) : C[o + j]? = some v := by
  have hj := (List.getElem?_eq_some_iff.1 hv).1
  rw [h, List.getElem?_toArray, List.append_assoc, List.getElem?_append_right (by omega), show o + j - pre.length = j by omega, List.getElem?_append_left hj]
  exact hv
section
variable {w : World} {g : Nat} {T : TypeId} {C : Array Value}
/-- A part of a block, loaded. -/
theorem load_part (B : Blk w g T C) (o : Nat) (D : Array Value) (pre post : List Value) (h : C = (pre ++ D.toList ++ post).toArray) (ho : pre.length = o) (ty : TypeId) (d : TypeDesc) (hu : Tryd.prog.underlying ty = some d) (hd : d.isRow = true) (hi : (Tryd.prog.info? ty).map (·.size) = some D.size) :
    (Instr.loadAt ty (.pointer (some ⟨g, o, none⟩))).run Tryd.prog w = .ok (.agg D) w := by
  have := run_loadAt_mid (P := Tryd.prog) w g o ty D.toList d (fun j v hv => B.cell (o + j) (part_at h ho j v hv)) hu hd (by rw [Array.length_toList]; exact hi)
  simpa using this
theorem load_whole (B : Blk w g T C) (ty : TypeId) (d : TypeDesc) (hu : Tryd.prog.underlying ty = some d) (hd : d.isRow = true) (hi : (Tryd.prog.info? ty).map (·.size) = some C.size) :
    (Instr.loadAt ty (.pointer (some ⟨g, 0, none⟩))).run Tryd.prog w = .ok (.agg C) w :=
  load_part B 0 C [] [] (by simp) rfl ty d hu hd hi
theorem setCells_blk : ∀ (vs : List Value) (w : World) (pre D post : List Value), D.length = vs.length → Blk w g T (pre ++ D ++ post).toArray → Blk (w.setCells g pre.length vs) g T (pre ++ vs ++ post).toArray
  | [], w, pre, D, post, hl, B => by
    have : D = [] := List.eq_nil_of_length_eq_zero hl
    subst this
    exact B
  | v :: vs, w, pre, [], post, hl, B => by simp at hl
  | v :: vs, w, pre, d :: D, post, hl, B => by
    have B2 := B.set_ pre.length v
    have e : (pre ++ d :: D ++ post).toArray.setIfInBounds pre.length v = ((pre ++ [v]) ++ D ++ post).toArray := by
      rw [List.setIfInBounds_toArray]
      congr 1
      simp [List.set_append]
    rw [e] at B2
    have h := setCells_blk vs (w.setCell ⟨g, pre.length, none⟩ v) (pre ++ [v]) D post (by simpa using hl) B2
    rw [List.length_append, List.length_singleton] at h
    rw [World.setCells]
    have e2 : pre ++ v :: vs ++ post = pre ++ [v] ++ vs ++ post := by simp
    rw [e2]
    exact h
theorem setCells_exc : ∀ (vs : List Value) (w : World) (o : Nat), Exc g (g + 1) w (w.setCells g o vs)
  | [], w, o => Exc.refl _ _ _
  | v :: vs, w, o => by
    rw [World.setCells]
    exact (Exc.setCell (p := ⟨g, o, none⟩) (Nat.le_refl _) (Nat.lt_succ_self _) v).trans (setCells_exc vs _ _)
/-- A part of a block, stored. -/
theorem store_part (B : Blk w g T C) (o : Nat) (D : Array Value) (pre old post : List Value) (h : C = (pre ++ old ++ post).toArray) (ho : pre.length = o) (hl : old.length = D.size) (ty : TypeId) (hi : (Tryd.prog.info? ty).map (·.size) = some D.size) (h1 : D.all (·.oneCell') = true) :
    ∃ w', (Instr.storeAt ty (.pointer (some ⟨g, o, none⟩)) (.agg D)).run Tryd.prog w = .ok () w' ∧ Blk w' g T (pre ++ D.toList ++ post).toArray ∧ Exc g (g + 1) w w' := by
  refine ⟨w.setCells g o D.toList, ?_, ?_, setCells_exc _ _ _⟩
  · refine run_storeAt_mid w g o ty D (fun j hj => ⟨?_, B.frozen _⟩) hi h1
    obtain ⟨v, hv⟩ : ∃ v, old[j]? = some v := ⟨_, List.getElem?_eq_getElem (by omega)⟩
    rw [B.cell (o + j) (part_at h ho j v hv)]
    rfl
  · subst ho
    exact setCells_blk D.toList w pre old post (by rw [Array.length_toList]; exact hl) (by rw [← h]; exact B)
end
/-- An operation that loads, its value given. -/
theorem run_op_load {P : Program} {o : Oper} {ev : Operand → Value} {ty : TypeId} {x : Operand} {w : World} {p v : Value} (ho : o.op = .load ty x) (hx : ev x = p) (h : (Instr.loadAt ty p).run P w = .ok v w) : (execOp ev o).run P w = .ok (.value v) w := by
  unfold execOp
  simp only [ho, hx, Sem.run_bind, h, Result.andThen_ok, Sem.run_pure]
theorem run_op_store {P : Program} {o : Oper} {ev : Operand → Value} {ty : TypeId} {x y : Operand} {w w' : World} {p v : Value} (ho : o.op = .store ty x y) (hx : ev x = p) (hy : ev y = v) (h : (Instr.storeAt ty p v).run P w = .ok () w') : (execOp ev o).run P w = .ok .skip w' := by
  unfold execOp
  simp only [ho, hx, hy, Sem.run_bind, h, Result.andThen_ok, Sem.run_pure]
theorem wpList_load_by {P : Program} {ops : Array Oper} {rest : List Oper} {o : Oper} {a : Act} {w : World} {Q : Exit → Act → World → Prop} (hgd : o.guard = none) {ty : TypeId} {x : Operand} (ho : o.op = .load ty x) {p v : Value} (hx : a.eval x = p) (h : (Instr.loadAt ty p).run P w = .ok v w)
    (k : wpList P ops Q rest (a.put o.dst v) w) : wpList P ops Q (o :: rest) a w :=
  wpList_plain hgd fun K hK => by
    unfold Oper.wp
    rw [run_op_load ho hx h]
    exact hK _ _ k
theorem wpList_store_by {P : Program} {ops : Array Oper} {rest : List Oper} {o : Oper} {a : Act} {w w' : World} {Q : Exit → Act → World → Prop} (hgd : o.guard = none) {ty : TypeId} {x y : Operand} (ho : o.op = .store ty x y) {p v : Value} (hx : a.eval x = p) (hy : a.eval y = v) (h : (Instr.storeAt ty p v).run P w = .ok () w')
    (k : wpList P ops Q rest (a.put o.dst undef) w') : wpList P ops Q (o :: rest) a w :=
  wpList_plain hgd fun K hK => by
    unfold Oper.wp
    rw [run_op_store ho hx hy h]
    exact hK _ _ k
theorem eqItems_u8 (d : Nat) (w : World) (m : List UInt8) : ∀ (is : List Nat), (∀ i ∈ is, i < 32) → (Op.eqItems (d + 1) 5 1 (macA m) (macA m) is).run Tryd.prog w = .ok true w
  | [], _ => by simp [Op.eqItems]
  | i :: is, h => by
    have hp : (part 5 (macA m) (i * 1)).run Tryd.prog w = .ok (mb m i) w := by
      rw [Nat.mul_one]
      unfold part
      have ha : (isAgg 5).run Tryd.prog w = .ok false w := by
        unfold isAgg
        rw [Sem.run_bind, run_underlying Tryd.underlying5 w]
        rfl
      rw [Sem.run_bind, ha]
      simp [macA_at m i (h i (by simp))]
    have hq : (Op.equalIn (d + 1) 5 (mb m i) (mb m i)).run Tryd.prog w = .ok true w := by
      unfold mb
      rw [run_equalIn_int w d 5 _ _ _ _ Tryd.underlying5]
      simp
    simp only [Op.eqItems, Sem.run_bind, hp, hq, Result.andThen_ok]
    have := eqItems_u8 d w m is (fun j hj => h j (by simp [hj]))
    simpa using this
theorem eql_mac (w : World) (m : List UInt8) : (binOp .eql 25 (.agg (macA m)) (.agg (macA m))).run Tryd.prog w = .ok (.bool true) w := by
  simp only [binOp]
  have h := run_equalIn_array w 9999 (macA m) (macA m) Tryd.underlying25 (i := (Tryd.prog.info? 5).get (by kernel_rfl)) (by kernel_rfl)
  have hc : Tryd.prog.cellsOf 5 = 1 := by kernel_rfl
  rw [hc] at h
  have h2 := eqItems_u8 9998 w m (List.range 32) (fun i hi => List.mem_range.1 hi)
  simp [Op.equal, Op.maxDepth, h, h2]
end Go.Proofs.YtgfhbachgniipaaDoor

/-! Lists of grants and of entries: elements as rows of cells; held against one another, copied, written over. -/
namespace Go.Proofs.YtgfhbachgniipaaDoor
set_option linter.unusedVariables false
set_option linter.unusedSimpArgs false
open Go.RowKit
theorem eql_gr (w : World) (g : Grant) : (binOp .eql 30 (.agg (grA g)) (.agg (grA g))).run Tryd.prog w = .ok (.bool true) w := by
  unfold grA
  go_simp
theorem equalIn_mac (w : World) (d : Nat) (m : List UInt8) : (Op.equalIn (d + 2) 25 (.agg (macA m)) (.agg (macA m))).run Tryd.prog w = .ok true w := by
  have h := run_equalIn_array w (d + 1) (macA m) (macA m) Tryd.underlying25 (i := (Tryd.prog.info? 5).get (by kernel_rfl)) (by kernel_rfl)
  have hc : Tryd.prog.cellsOf 5 = 1 := by kernel_rfl
  rw [hc, eqItems_u8 d w m (List.range 32) (fun i hi => List.mem_range.1 hi)] at h
  exact h
theorem eql_en (w : World) (e : Ent) : (binOp .eql 72 (.agg (enA e)) (.agg (enA e))).run Tryd.prog w = .ok (.bool true) w := by
  have h := equalIn_mac w 9997 e.sum
  unfold macA at h
  unfold enA
  go_simp
def rdGr : Rd Grant := (Rd.pair (Rd.int .i64) (Rd.pair Rd.str (Rd.pair Rd.bool (Rd.int .i64)))).iso fun x => (x.r, x.p, x.x, x.u)
theorem gr_cells {w : World} {x : Grant} {cs : List Value} (h : rdGr.K w x cs) : cs = (grA x).toList := by
  obtain ⟨_, _, rfl, rfl, _, _, rfl, rfl, _, _, rfl, rfl, rfl⟩ := h
  rfl
theorem gr_K (w : World) (x : Grant) : rdGr.K w x (grA x).toList := ⟨_, _, rfl, rfl, _, _, rfl, rfl, _, _, rfl, rfl, rfl⟩
theorem arr_mac {w : World} {m : List UInt8} {cs : List Value} (h : (Rd.arr 32 Rd.u8).K w m cs) : cs = (macA m).toList ∧ m.length = 32 := by
  obtain ⟨h1, h2, h3⟩ := h
  have h2 : cs.length = 32 := h2
  refine ⟨?_, h1⟩
  apply List.ext_getElem?
  intro i
  by_cases hi : i < 32
  · have h4 : (cs.drop (i * 1)).take 1 = [.int .u8 (m[i]'(by omega)).toNat] := h3 i (by omega)
    have h5 : cs[i]? = some (.int .u8 (m[i]'(by omega)).toNat) := by
      have := congrArg (fun l : List Value => l[0]?) h4
      simpa [List.getElem?_take, List.getElem?_drop] using this
    rw [h5, Array.getElem?_toList, macA_at m i hi]
    unfold mb
    rw [List.getD_eq_getElem?_getD, List.getElem?_eq_getElem (by omega)]
    rfl
  · rw [List.getElem?_eq_none (by omega), Array.getElem?_toList, Array.getElem?_eq_none (by rw [macA_size]; omega)]
theorem mac_arr (w : World) (m : List UInt8) (h : m.length = 32) : (Rd.arr 32 Rd.u8).K w m (macA m).toList := by
  refine ⟨h, rfl, fun i hi => ?_⟩
  show ((macA m).toList.drop (i * 1)).take 1 = [.int .u8 m[i].toNat]
  have h4 := macA_at m i (by omega)
  rw [← Array.getElem?_toList] at h4
  obtain ⟨h5, h6⟩ := List.getElem?_eq_some_iff.1 h4
  rw [Nat.mul_one, List.drop_eq_getElem_cons h5, h6]
  unfold mb
  rw [List.getD_eq_getElem?_getD, List.getElem?_eq_getElem (by omega)]
  rfl
def rdEn : Rd Ent := (Rd.pair (Rd.int .i64) (Rd.pair (Rd.int .i64) (Rd.pair (Rd.int .i64) (Rd.pair (Rd.int .i64) (Rd.pair (Rd.int .i64) (Rd.pair Rd.str (Rd.pair Rd.str (Rd.arr 32 Rd.u8)))))))).iso fun x => (x.no, x.clock, x.kind, x.code, x.id, x.st, x.su, x.sum)
theorem en_cells {w : World} {x : Ent} {cs : List Value} (h : rdEn.K w x cs) : cs = (enA x).toList := by
  obtain ⟨_, _, rfl, rfl, _, _, rfl, rfl, _, _, rfl, rfl, _, _, rfl, rfl, _, _, rfl, rfl, _, _, rfl, rfl, _, _, rfl, rfl, h⟩ := h
  rw [(arr_mac h).1]
  rfl
theorem en_sum {w : World} {x : Ent} {cs : List Value} (h : rdEn.K w x cs) : x.sum.length = 32 := by
  obtain ⟨_, _, rfl, rfl, _, _, rfl, rfl, _, _, rfl, rfl, _, _, rfl, rfl, _, _, rfl, rfl, _, _, rfl, rfl, _, _, rfl, rfl, h⟩ := h
  exact (arr_mac h).2
theorem en_K (w : World) (x : Ent) (h : x.sum.length = 32) : rdEn.K w x (enA x).toList := ⟨_, _, rfl, rfl, _, _, rfl, rfl, _, _, rfl, rfl, _, _, rfl, rfl, _, _, rfl, rfl, _, _, rfl, rfl, _, _, rfl, rfl, mac_arr w x.sum h⟩
theorem el_addr {α : Type} {d : Rd α} {w : World} {A : Option Addr} {n : Nat} {xs : List α} (h : d.Sl w A n xs) (k : Nat) (hk : k < n) : ∃ b o, A = some ⟨b, o, none⟩ := by
  obtain ⟨b, o, cs, e, _⟩ := h.get k hk
  exact ⟨b, o, e⟩
/-- Element k of a slice, loaded. -/
theorem el_load {α : Type} {d : Rd α} {enc : α → Array Value} (hK : ∀ {w x cs}, d.K w x cs → cs = (enc x).toList) {w : World} {b o : Nat} {n : Nat} {xs : List α} (h : d.Sl w (some ⟨b, o, none⟩) n xs) (k : Nat) (x : α) (hx : xs[k]? = some x) (ty : TypeId) (t : TypeDesc)
    (hu : Tryd.prog.underlying ty = some t) (hd : t.isRow = true) (hi : (Tryd.prog.info? ty).map (·.size) = some d.sz) :
    (Instr.loadAt ty (.pointer (some ⟨b, o + k * d.sz, none⟩))).run Tryd.prog w = .ok (.agg (enc x)) w := by
  obtain ⟨hk, hx⟩ := List.getElem?_eq_some_iff.1 hx
  obtain ⟨b', o', cs, e, hk', hc⟩ := h.get k (by rw [← h.1]; exact hk)
  cases e
  rw [hx] at hk'
  have hl := d.len hk'
  have hcs := hK hk'
  have := run_loadAt_mid (P := Tryd.prog) w b (o + k * d.sz) ty cs t hc hu hd (by rw [hi, hl])
  rw [this, hcs]
theorem run_build1 (w : World) (t e : TypeId) (C : Array Value) (ie : TypeInfo) (z : Value) (hu : Tryd.prog.underlying t = some (.slice e)) (hie : Tryd.prog.info? e = some ie) (hz : ie.zero = some z) (hs : ie.size = C.size) (h0 : 0 < C.size) (hC : C.size ≤ 1000) :
    (Instr.buildSlice t 1 #[(0, .agg C)]).run Tryd.prog w = .ok (.slice (some ⟨w.heap.size, 0, none⟩) 1 1) (w.alloc (.cells C e)) := by
  refine run_buildSlice w t e 1 _ C ie z hu hie hz (by rw [hs]; omega) (by rw [hs]; omega) ?_
  have h := Great.fill_whole (s := ie.size) (by omega) [.agg C] ((Array.range (1 * ie.size)).map (z.cells[· % z.cells.size]!)) (fun v hv => by
    simp only [List.mem_singleton] at hv
    subst hv
    simp [Value.cells, hs]) (by simp)
  simpa [Value.cells] using h
theorem fold_all {Z C : Array Value} {n : Nat} (h0 : 0 < n) (hz : Z.size = n) (hc : C.size = n) : Array.foldl (fun (cs : Array Value) (x : Value × Nat) => cs.setIfInBounds x.snd x.fst) Z C.zipIdx 0 n = C := by
  have h := Great.fill_whole (s := n) h0 [.agg C] Z (fun v hv => by
    simp only [List.mem_singleton] at hv
    subst hv
    exact hc) (by simp [hz])
  simp [Instr.fill, Value.cells, hz, hc] at h
  exact h
/-- Cells that are one cell each. -/
theorem one_gr (x : Grant) : ∀ u ∈ (grA x).toList, u.oneCell' = true := by
  intro u hu
  simp only [grA, List.mem_cons, List.not_mem_nil, or_false] at hu
  rcases hu with rfl | rfl | rfl | rfl <;> rfl
theorem one_mac (m : List UInt8) : (macA m).all (·.oneCell') = true := by simp [macA, mb, Value.oneCell']
theorem one_enA (x : Ent) : (enA x).all (·.oneCell') = true := by simp [enA, mb, Value.oneCell']
theorem one_en (x : Ent) : ∀ u ∈ (enA x).toList, u.oneCell' = true := fun u hu => Array.all_eq_true_iff_forall_mem.1 (one_enA x) u (by simpa using hu)
theorem new_cellsA (w : World) (t : TypeId) (cs : Array Value) (j : Nat) (u : Value) (h : cs.toList[j]? = some u) : (w.alloc (.cells cs t)).cell? ((⟨w.heap.size, 0, none⟩ : Addr).add j) = some u := new_cells w t cs j u h
theorem own_onlyM {α : Type} {d : Rd α} {f : α → Array Value} (hf : ∀ x, (f x).size = d.sz) {lo hi base : Nat} {w : World} {e : TypeId} {v : Value} {l : List α} (hK : ∀ x, x ∈ l → ∀ w, d.K w x (f x).toList)
    (h : w.ownsRow base e d.sz v l.length (l.flatMap fun x => (f x).toList)) (hb : lo ≤ base) (hh : w.heap.size ≤ hi) : ∃ A c, v = .slice A l.length c ∧ l.length ≤ c ∧ c ≤ maxLen ∧ d.Sl (only w lo hi) A l.length l := by
  have hf : ∀ x, ((fun x => (f x).toList) x).length = d.sz := fun x => by simp [hf x]
  obtain ⟨hl, ⟨rfl, hn⟩ | ⟨g, cap, cur, rfl, hbg, hc, hle, hm, hs, ht⟩⟩ := h
  · have hl0 : l = [] := List.eq_nil_of_length_eq_zero hn
    subst hl0
    exact ⟨none, 0, rfl, Nat.le_refl _, by decide, Rd.Sl.none d _ none⟩
  · have hg : g < hi := Nat.lt_of_lt_of_le (Array.getElem?_eq_some_iff.1 hc).1 hh
    refine ⟨some ⟨g, 0, none⟩, cap, rfl, hle, hm, rfl, fun _ => ⟨g, 0, rfl, fun i hi' => ⟨(f l[i]).toList, hK _ (List.getElem_mem _) _, fun j u hu => ?_⟩⟩⟩
    have hj : j < d.sz := by
      have h1 := (List.getElem?_eq_some_iff.1 hu).1
      have h2 := hf l[i]
      simp only at h2
      omega
    have hlt : i * d.sz + j < l.length * d.sz := by
      have := Nat.mul_le_mul_right d.sz (show i + 1 ≤ l.length by omega)
      rw [Nat.add_mul] at this; omega
    rw [← flat_get hf l i j hi' hj, ← ht, List.getElem?_take_of_lt hlt] at hu
    rw [show 0 + i * d.sz + j = i * d.sz + j by omega]
    exact cell_only hc (Nat.le_trans hb hbg) hg (by simpa using hu)
theorem sl_sum {w : World} {A : Option Addr} {n : Nat} {xs : List Ent} (h : rdEn.Sl w A n xs) (x : Ent) (hx : x ∈ xs) : x.sum.length = 32 := by
  obtain ⟨i, hi, rfl⟩ := List.mem_iff_getElem.1 hx
  obtain ⟨b, o, cs, e, hk, hc⟩ := h.get i (by rw [← h.1]; exact hi)
  exact en_sum hk
theorem flat_one {α : Type} (f : α → Array Value) (l : List α) (k : Nat) (x : α) (h : l[k]? = some x) : (l.take (k + 1)).flatMap (fun x => (f x).toList) = (l.take k).flatMap (fun x => (f x).toList) ++ (f x).toList := by
  obtain ⟨hk, rfl⟩ := List.getElem?_eq_some_iff.1 h
  rw [List.take_succ_eq_append_getElem hk, List.flatMap_append]
  simp
set_option maxHeartbeats 1000000 in
set_option maxRecDepth 100000 in
theorem sameGrants_any (w : World) (A : Option Addr) (c : Nat) (xs : List Grant) (hS : rdGr.Sl w A xs.length xs) (hc : xs.length ≤ c) (hn : xs.length ≤ 1000000) (A2 : Option Addr) (c2 : Nat) (hS2 : rdGr.Sl w A2 xs.length xs) (hc2 : xs.length ≤ c2) :
    Calls Tryd.prog 46 #[.slice A xs.length c, .slice A2 xs.length c2] w fun e w' => e = .returned (.bool true) ∧ Ext w w' := by
  obtain ⟨n, hxn⟩ : ∃ n, xs.length = n := ⟨_, rfl⟩
  rw [hxn] at hS hn hc hS2 hc2 ⊢
  go_enter Tryd.func46, Tryd.ntmps46
  go_wp2_with fail
  go_loopw [5] (fun i wr => ∃ k : Nat, k ≤ n ∧ i = .int .i64 k ∧ Ext w wr) (fun i _ => n - (intOf i).toNat)
  case atStart => exact ⟨0, by omega, rfl, Ext.refl _⟩
  case round =>
    obtain ⟨k, hkn, rfl, hwr⟩ := hrel
    by_cases hlt : k < n
    · obtain ⟨b, o, rfl⟩ := el_addr hS k hlt
      obtain ⟨b2, o2, rfl⟩ := el_addr hS2 k hlt
      obtain ⟨x, hx⟩ : ∃ x, xs[k]? = some x := ⟨_, List.getElem?_eq_getElem (by omega)⟩
      have rx := fun (w' : World) (h : Ext wr w') => el_load gr_cells (hS.ext (hwr.trans h)) k x hx 30 _ Tryd.underlying30 rfl (by kernel_rfl)
      have ry := fun (w' : World) (h : Ext wr w') => el_load gr_cells (hS2.ext (hwr.trans h)) k x hx 30 _ Tryd.underlying30 rfl (by kernel_rfl)
      clear hx
      have re := fun (w' : World) => eql_gr w' x
      have hY : Ext wr wr := Ext.refl wr
      generalize grA x = C at rx ry re
      simp only [show rdGr.sz = 4 from rfl, show rdEn.sz = 39 from rfl] at rx ry
      clear hS hS2
      go_upto_region 6 with fail
      refine st_start (fun _ w' => Ext wr w') (fun _ => false) (by kernel_rfl) (by kernel_rfl) (by (repeat (first | assumption | exact Ext.refl _ | refine Ext.drew ?_ | refine Ext.alloc ?_ _ | refine Ext.drewN ?_ _ | refine Ext.trans ?_ (by assumption)))) ?_
      iterate 3 (first | (refine st_off (a' := ?_) rfl (by rfl) rfl ?_ ?_; rotate_left 1; (· simp only [Act.put, List.setIfInBounds_toArray, List.set_cons_zero, List.set_cons_succ]; rfl)) | (refine st_y (v := ?_) (a' := ?_) rfl (by rfl) rfl (fun k w' hw' => ?_) ?_ ?_; rotate_left 2; (· go_simp; with_reducible rfl); (· simp only [Act.put, List.setIfInBounds_toArray, List.set_cons_zero, List.set_cons_succ]; rfl)))
      refine st_y (v := ?_) (a' := ?_) rfl (by rfl) rfl (fun kk w' hw' => ?_) ?_ ?_
      rotate_left 2
      · (refine (run_op_load rfl ?_ (rx w' hw')).trans ?_; (· rfl); (· with_reducible rfl))
      · simp only [Act.put, List.setIfInBounds_toArray, List.set_cons_zero, List.set_cons_succ]; rfl
      iterate 3 (first | (refine st_off (a' := ?_) rfl (by rfl) rfl ?_ ?_; rotate_left 1; (· simp only [Act.put, List.setIfInBounds_toArray, List.set_cons_zero, List.set_cons_succ]; rfl)) | (refine st_y (v := ?_) (a' := ?_) rfl (by rfl) rfl (fun k w' hw' => ?_) ?_ ?_; rotate_left 2; (· go_simp; with_reducible rfl); (· simp only [Act.put, List.setIfInBounds_toArray, List.set_cons_zero, List.set_cons_succ]; rfl)))
      refine st_y (v := ?_) (a' := ?_) rfl (by rfl) rfl (fun kk w' hw' => ?_) ?_ ?_
      rotate_left 2
      · (refine (run_op_load rfl ?_ (ry w' hw')).trans ?_; (· rfl); (· with_reducible rfl))
      · simp only [Act.put, List.setIfInBounds_toArray, List.set_cons_zero, List.set_cons_succ]; rfl
      iterate 2 (first | (refine st_off (a' := ?_) rfl (by rfl) rfl ?_ ?_; rotate_left 1; (· simp only [Act.put, List.setIfInBounds_toArray, List.set_cons_zero, List.set_cons_succ]; rfl)) | (refine st_y (v := ?_) (a' := ?_) rfl (by rfl) rfl (fun k w' hw' => ?_) ?_ ?_; rotate_left 2; (· go_simp; with_reducible rfl); (· simp only [Act.put, List.setIfInBounds_toArray, List.set_cons_zero, List.set_cons_succ]; rfl)))
      refine st_end ?_
      intro w1 hY1
      go_wp2_with fail
      go_roundw
      case rel => exact ⟨k + 1, by omega, by go_num, hwr.trans hY1⟩
      case measure => simp [intOf]; omega
    · obtain rfl : k = n := by omega
      go_wp2_with fail
      go_ret
      exact ⟨rfl, hwr⟩
theorem elt_Grants : Elt Tryd.prog 23 30 4 40 := Elt.mk' (z := (.agg #[.int .i64 0, .string ⟨#[]⟩, .bool false, .int .i64 0])) Tryd.underlying23 (by kernel_rfl) rfl (by decide)
theorem elt_Entries : Elt Tryd.prog 43 72 39 104 := Elt.mk' (z := (.agg #[.int .i64 0, .int .i64 0, .int .i64 0, .int .i64 0, .int .i64 0, .string ⟨#[]⟩, .string ⟨#[]⟩, .int .u8 0, .int .u8 0, .int .u8 0, .int .u8 0, .int .u8 0, .int .u8 0, .int .u8 0, .int .u8 0, .int .u8 0, .int .u8 0, .int .u8 0, .int .u8 0, .int .u8 0, .int .u8 0, .int .u8 0, .int .u8 0, .int .u8 0, .int .u8 0, .int .u8 0, .int .u8 0, .int .u8 0, .int .u8 0, .int .u8 0, .int .u8 0, .int .u8 0, .int .u8 0, .int .u8 0, .int .u8 0, .int .u8 0, .int .u8 0, .int .u8 0, .int .u8 0])) Tryd.underlying43 (by kernel_rfl) rfl (by decide)
end Go.Proofs.YtgfhbachgniipaaDoor

/-! Lists of grants and of entries: written over. -/
namespace Go.Proofs.YtgfhbachgniipaaDoor
set_option linter.unusedVariables false
set_option linter.unusedSimpArgs false
open Go.RowKit
/-- n rows of sz cells from A on lie in the blocks from lo on, below hi, and may be written. -/
def RowsAt (w : World) (lo hi : Nat) (A : Option Addr) (n sz : Nat) : Prop := ∀ k, k < n → ∃ b o, A = some ⟨b, o, none⟩ ∧ ∀ j, j < sz → ∃ v, (only w lo hi).cell? ⟨b, o + k * sz + j, none⟩ = some v
theorem rowsAt_of {α : Type} {d : Rd α} {w : World} {lo hi : Nat} {A : Option Addr} {n : Nat} {xs : List α} (h : d.Sl (only w lo hi) A n xs) : RowsAt w lo hi A n d.sz := fun k hk => by
  obtain ⟨b, o, cs, e, hK, hc⟩ := h.get k hk
  refine ⟨b, o, e, fun j hj => ?_⟩
  have hl := d.len hK
  exact ⟨_, hc j _ (List.getElem?_eq_getElem (by omega))⟩
theorem There.setCells {lo hi : Nat} {w0 : World} (b : Nat) : ∀ (vs : List Value) (o : Nat) (w : World), There lo hi w0 w → There lo hi w0 (w.setCells b o vs)
  | [], _, _, h => h
  | v :: vs, o, w, h => by
    rw [World.setCells]
    exact There.setCells b vs (o + 1) _ (h.trans (There.set _ _))
def markG (k : Nat) : Grant := ⟨-9, ⟨#[]⟩, false, 900 + k⟩
def markE (k : Nat) : Ent := ⟨-9 - k, 0, 0, 0, 0, ⟨#[]⟩, ⟨#[]⟩, zMac⟩
end Go.Proofs.YtgfhbachgniipaaDoor

/-! Tokens: held against one another, copied. -/
namespace Go.Proofs.YtgfhbachgniipaaDoor
set_option linter.unusedVariables false
set_option linter.unusedSimpArgs false
open Go.RowKit
/-- What a slice of grants, of rows of bytes reads ars. -/
def GsV (w : World) (l : List Grant) (a : Value) : Prop := ∃ A c, a = .slice A l.length c ∧ l.length ≤ c ∧ rdGr.Sl w A l.length l
def BsV (w : World) (l : List (List UInt8)) (a : Value) : Prop := ∃ A c, a = .slice A l.length c ∧ l.length ≤ c ∧ rdB.Sl w A l.length l
theorem GsV.mono {w w' : World} {l : List Grant} {a : Value} (h : GsV w l a) (k : Cle w w') : GsV w' l a := by
  obtain ⟨A, c, e, h1, h2⟩ := h
  exact ⟨A, c, e, h1, h2.mono k⟩
theorem BsV.mono {w w' : World} {l : List (List UInt8)} {a : Value} (h : BsV w l a) (k : Cle w w') : BsV w' l a := by
  obtain ⟨A, c, e, h1, h2⟩ := h
  exact ⟨A, c, e, h1, h2.mono k⟩
theorem GsV.ext {w w' : World} {l : List Grant} {a : Value} (h : GsV w l a) (k : Ext w w') : GsV w' l a := h.mono k.cle
theorem BsV.ext {w w' : World} {l : List (List UInt8)} {a : Value} (h : BsV w l a) (k : Ext w w') : BsV w' l a := h.mono k.cle
theorem GsV.nil (w : World) : GsV w [] (.slice none 0 0) := ⟨none, 0, rfl, Nat.le_refl _, Rd.Sl.none _ _ none⟩
theorem BsV.nil (w : World) : BsV w [] (.slice none 0 0) := ⟨none, 0, rfl, Nat.le_refl _, Rd.Sl.none _ _ none⟩
theorem oc_int (k : IntKind) (x : Int) : (Value.int k x).oneCell' = true := rfl
theorem oc_str (x : ByteArray) : (Value.string x).oneCell' = true := rfl
theorem oc_bool (x : Bool) : (Value.bool x).oneCell' = true := rfl
theorem one_tok (t : Tok) (a : Value) (h : a.oneCell' = true) : (tokA t a).all (·.oneCell') = true := by simp [tokA, mb, oc_int, oc_str, h]
theorem fin_own {w W w1 w9 : World} (hE : Ext w W) (hE1 : Ext W w1) (hX : Exc w.heap.size W.heap.size w1 w9) : Ext w w9 ∧ Cle (only w1 W.heap.size w1.heap.size) (only w9 w.heap.size w9.heap.size) := by
  refine ⟨Exc.ext (hE.trans hE1) hX (Nat.le_refl _), ?_⟩
  have e : only w9 W.heap.size w1.heap.size = only w1 W.heap.size w1.heap.size := hX.only (Nat.le_refl _) (.inr (Nat.le_refl _))
  rw [← e]
  exact only_wide hE.le hX.size
theorem Exc.blk {lo hi : Nat} {w w' : World} {g : Nat} {t : TypeId} {cs : Array Value} (h : Exc lo hi w w') (hb : Blk w g t cs) (hg : g < lo ∨ hi ≤ g) : Blk w' g t cs := (h.block g hb.lt hg).trans hb
/-- w with the blocks from l on, below h, blanked. -/
def gap (w : World) (l h : Nat) : World := { w with heap := Array.ofFn (n := w.heap.size) fun i => if l ≤ i.1 ∧ i.1 < h then .cells #[] 0 (0, 0) else w.heap[i.1] }
theorem gap_heap (w : World) (l h b : Nat) : (gap w l h).heap[b]? = if b < w.heap.size then some (if l ≤ b ∧ b < h then .cells #[] 0 (0, 0) else w.heap[b]?.getD (.cells #[] 0 (0, 0))) else none := by
  unfold gap
  simp only [Array.getElem?_ofFn]
  by_cases hb : b < w.heap.size
  · simp [hb]
  · simp [hb]
theorem gap_keep {w w' : World} {l h lo hi : Nat} (k : Exc l h w w') (hh : hi ≤ w.heap.size) : only (gap w' l h) lo hi = only (gap w l h) lo hi :=
  only_keep fun b h1 h2 => by
    have hs := k.size
    rw [gap_heap, gap_heap, if_pos (show b < w'.heap.size by omega), if_pos (show b < w.heap.size by omega)]
    by_cases hg : l ≤ b ∧ b < h
    · rw [if_pos hg, if_pos hg]
    · rw [if_neg hg, if_neg hg, k.block b (by omega) (by omega)]
theorem gap_cle (w : World) (l h lo hi : Nat) (hh : hi ≤ w.heap.size) : Cle (only (gap w l h) lo hi) (only w lo hi) := fun p v hv => by
  obtain ⟨a, b, hc, hf, cs, t, hb⟩ := only_cell hv
  have hs := only_spot hv
  obtain ⟨pb, po, ps⟩ := p
  obtain rfl : ps = none := hs
  have a : lo ≤ pb := a
  have b : pb < hi := b
  have hb0 : (gap w l h).heap[pb]? = some (.cells cs t (0, 0)) := hb
  have hc1 : cs[po]? = some v := by
    unfold World.cell? at hc
    rw [hb] at hc
    simpa using hc
  rw [gap_heap, if_pos (show pb < w.heap.size by omega)] at hb0
  by_cases hg : l ≤ pb ∧ pb < h
  · rw [if_pos hg] at hb0
    simp only [Option.some.injEq, Obj.cells.injEq] at hb0
    rw [← hb0.1] at hc1
    simp at hc1
  · rw [if_neg hg] at hb0
    have hlt : pb < w.heap.size := by omega
    rw [Array.getElem?_eq_getElem hlt] at hb0
    refine cell_only (w := w) (cs := cs) (t := t) ?_ a b hc1
    rw [Array.getElem?_eq_getElem hlt]
    simpa using hb0
theorem gap_off (w : World) (l h lo hi : Nat) (hh : hi ≤ w.heap.size) (hd : hi ≤ l ∨ h ≤ lo) : only (gap w l h) lo hi = only w lo hi :=
  only_keep fun b h1 h2 => by
    rw [gap_heap, if_pos (show b < w.heap.size by omega), if_neg (show ¬ (l ≤ b ∧ b < h) by omega), Array.getElem?_eq_getElem (by omega)]
    rfl
theorem kind_bytes {w w' : World} {lo hi : Nat} {A : Option Addr} {n : Nat} {l : List UInt8} (k : Kind w w') (h : Rd.u8.Sl (only w lo hi) A n l) : ∃ y : List UInt8, y.length = n ∧ Rd.u8.Sl (only w' lo hi) A n y := by
  rcases Nat.eq_zero_or_pos n with rfl | h0
  · exact ⟨[], rfl, rfl, fun h => absurd h (Nat.lt_irrefl 0)⟩
  · obtain ⟨b, o, e, hc⟩ := h.2 h0
    have hy : ∀ i : Fin n, ∃ y : UInt8, (only w' lo hi).cell? ⟨b, o + i.1, none⟩ = some (.int .u8 y.toNat) := fun i => by
      obtain ⟨cs, hK, hcell⟩ := hc i.1 (by rw [h.1]; exact i.2)
      have h1 := hcell 0 _ (by rw [show cs = [_] from hK]; rfl)
      obtain ⟨v', hv', ht⟩ := k.only h1
      rcases ht with rfl | ⟨_, y, _, rfl⟩
      · exact ⟨_, by simpa [Rd.u8] using hv'⟩
      · exact ⟨y, by simpa [Rd.u8] using hv'⟩
    obtain ⟨f, hf⟩ := Classical.axiomOfChoice hy
    refine ⟨List.ofFn f, by simp, by simp, fun _ => ⟨b, o, e, fun i hi => ⟨[_], rfl, fun j u hu => ?_⟩⟩⟩
    obtain ⟨rfl, rfl⟩ : j = 0 ∧ _ = u := by
      cases j with
      | zero => simp at hu; exact ⟨rfl, hu⟩
      | succ j => simp at hu
    have := hf ⟨i, by simpa using hi⟩
    simpa [Rd.u8] using this
set_option maxHeartbeats 1000000 in
set_option maxRecDepth 100000 in
theorem sameToken_any (w : World) (t : Tok) (a a' : Value) (h : GsV w t.gs a) (h' : GsV w t.gs a') (hn : t.gs.length ≤ 1000000) :
    Calls Tryd.prog 13 #[.agg (tokA t a), .agg (tokA t a')] w fun e w' => e = .returned (.bool true) ∧ Ext w w' := by
  obtain ⟨A, c, rfl, hc, hS⟩ := h
  obtain ⟨A', c', rfl, hc', hS'⟩ := h'
  obtain ⟨n, hln⟩ : ∃ n, t.gs.length = n := ⟨_, rfl⟩
  have hsg := fun (w' : World) (h : Ext w w') => sameGrants_any w' A c t.gs (hS.ext h) hc hn A' c' (hS'.ext h) hc'
  rw [hln] at hsg ⊢
  obtain ⟨W, hW, hE, bx, cx⟩ := box2 w (tokA t (.slice A n c)) (tokA t (.slice A' n c')) 27 27
  have B1 : Blk W w.heap.size 27 (tokA t (.slice A n c)) := by rw [hW]; exact (Blk.new _ _ _).alloc _
  have B2 : Blk W (w.heap.size + 1) 27 (tokA t (.slice A' n c')) := by rw [hW]; have := Blk.new (w.alloc (.cells (tokA t (.slice A n c)) 27)) 27 (tokA t (.slice A' n c')); simpa using this
  have x0 : W.cell? ⟨w.heap.size, 0, none⟩ = some (.string t.ten) := bx 0 _ rfl
  have y0 : W.cell? ⟨w.heap.size + 1, 0, none⟩ = some (.string t.ten) := cx 0 _ rfl
  have x1 : W.cell? ⟨w.heap.size, 1, none⟩ = some (.int .i64 t.id) := bx 1 _ rfl
  have y1 : W.cell? ⟨w.heap.size + 1, 1, none⟩ = some (.int .i64 t.id) := cx 1 _ rfl
  have x2 : W.cell? ⟨w.heap.size, 2, none⟩ = some (.slice A n c) := bx 2 _ rfl
  have y2 : W.cell? ⟨w.heap.size + 1, 2, none⟩ = some (.slice A' n c') := cx 2 _ rfl
  have l1 := load_part B1 3 (macA t.mac) [.string t.ten, .int .i64 t.id, .slice A n c] [] rfl rfl 25 _ Tryd.underlying25 rfl (by kernel_rfl)
  have l2 := load_part B2 3 (macA t.mac) [.string t.ten, .int .i64 t.id, .slice A' n c'] [] rfl rfl 25 _ Tryd.underlying25 rfl (by kernel_rfl)
  have em := fun (w' : World) => eql_mac w' t.mac
  generalize macA t.mac = M at l1 l2 em
  generalize tokA t (.slice A n c) = T1 at *
  generalize tokA t (.slice A' n c') = T2 at *
  clear bx cx hS hS' B1 B2
  go_enter Tryd.func13, Tryd.ntmps13
  go_upto_region 1 with fail
  rw [← hW]
  clear hW
  refine wp_region_lit ?_
  iterate 14 (first | (refine pl_off (a' := ?_) rfl (by rfl) ?_ ?_; rotate_left 1; (· simp only [Act.put, List.setIfInBounds_toArray, List.set_cons_zero, List.set_cons_succ]; rfl)) | (refine pl_y (v := ?_) (a' := ?_) rfl (by rfl) ?_ ?_ ?_; rotate_left 2; (· go_simp; with_reducible rfl); (· simp only [Act.put, List.setIfInBounds_toArray, List.set_cons_zero, List.set_cons_succ]; rfl)))
  refine pl_y (v := ?_) (a' := ?_) rfl (by rfl) ?_ ?_ ?_
  rotate_left 2
  · (refine (run_op_load rfl ?_ (l1)).trans ?_; (· rfl); (· with_reducible rfl))
  · simp only [Act.put, List.setIfInBounds_toArray, List.set_cons_zero, List.set_cons_succ]; rfl
  iterate 1 (first | (refine pl_off (a' := ?_) rfl (by rfl) ?_ ?_; rotate_left 1; (· simp only [Act.put, List.setIfInBounds_toArray, List.set_cons_zero, List.set_cons_succ]; rfl)) | (refine pl_y (v := ?_) (a' := ?_) rfl (by rfl) ?_ ?_ ?_; rotate_left 2; (· go_simp; with_reducible rfl); (· simp only [Act.put, List.setIfInBounds_toArray, List.set_cons_zero, List.set_cons_succ]; rfl)))
  refine pl_y (v := ?_) (a' := ?_) rfl (by rfl) ?_ ?_ ?_
  rotate_left 2
  · (refine (run_op_load rfl ?_ (l2)).trans ?_; (· rfl); (· with_reducible rfl))
  · simp only [Act.put, List.setIfInBounds_toArray, List.set_cons_zero, List.set_cons_succ]; rfl
  iterate 7 (first | (refine pl_off (a' := ?_) rfl (by rfl) ?_ ?_; rotate_left 1; (· simp only [Act.put, List.setIfInBounds_toArray, List.set_cons_zero, List.set_cons_succ]; rfl)) | (refine pl_y (v := ?_) (a' := ?_) rfl (by rfl) ?_ ?_ ?_; rotate_left 2; (· go_simp; with_reducible rfl); (· simp only [Act.put, List.setIfInBounds_toArray, List.set_cons_zero, List.set_cons_succ]; rfl)))
  refine pl_call (args := ?_) Tryd.func46 (by kernel_rfl) rfl (by rfl) rfl rfl ?_ ?_
  rotate_left 1
  · go_simp; with_reducible rfl
  (with_reducible refine (hsg W hE).mono ?_)
  rintro e w1 ⟨rfl, hY⟩
  refine ⟨_, _, rfl, (by simp only [Act.put, List.setIfInBounds_toArray, List.set_cons_zero, List.set_cons_succ]; rfl), ?_⟩
  iterate 2 (first | (refine pl_off (a' := ?_) rfl (by rfl) ?_ ?_; rotate_left 1; (· simp only [Act.put, List.setIfInBounds_toArray, List.set_cons_zero, List.set_cons_succ]; rfl)) | (refine pl_y (v := ?_) (a' := ?_) rfl (by rfl) ?_ ?_ ?_; rotate_left 2; (· go_simp; with_reducible rfl); (· simp only [Act.put, List.setIfInBounds_toArray, List.set_cons_zero, List.set_cons_succ]; rfl)))
  refine wpList_nil ?_
  go_wp2_with fail
  go_ret
  exact ⟨rfl, hE.trans hY⟩
end Go.Proofs.YtgfhbachgniipaaDoor

/-! Commands: held against one another, copied. -/
namespace Go.Proofs.YtgfhbachgniipaaDoor
set_option linter.unusedVariables false
set_option linter.unusedSimpArgs false
open Go.RowKit
theorem one_cmd (c : Cmd) (a b : Value) (h : a.oneCell' = true) (h' : b.oneCell' = true) : (cmdA c a b).all (·.oneCell') = true := by simp [cmdA, mb, oc_int, oc_str, oc_bool, h, h']
set_option maxHeartbeats 9000000 in
set_option maxRecDepth 100000 in
theorem sameCommand_any (w : World) (c : Cmd) (a b a' b' : Value) (h : GsV w c.tok.gs a) (h' : GsV w c.tok.gs a') (k : BsV w c.bodies b) (k' : BsV w c.bodies b') (hn : c.tok.gs.length ≤ 1000000) (hm : c.bodies.length ≤ 1000000) (hx : ∀ x ∈ c.bodies, x.length ≤ 9223372036854775807) :
    Calls Tryd.prog 26 #[.agg (cmdA c a b), .agg (cmdA c a' b')] w fun e w' => e = .returned (.bool true) ∧ Ext w w' := by
  have hst := fun (w' : World) (e : Ext w w') => sameToken_any w' c.tok a a' (h.ext e) (h'.ext e) hn
  obtain ⟨A, n, rfl, hc, hS⟩ := k
  obtain ⟨A', n', rfl, hc', hS'⟩ := k'
  have hsn := fun (w' : World) (h : Ext w w') => sameNested_any w' A n c.bodies (hS.ext h) hc (by omega) hx A' n' c.bodies (hS'.ext h) hc'
  simp only [beq_self_eq_true] at hsn
  obtain ⟨m, hlm⟩ : ∃ m, c.bodies.length = m := ⟨_, rfl⟩
  rw [hlm] at hsn ⊢
  obtain ⟨W, hW, hE, bx, cx⟩ := box2 w (cmdA c a (.slice A m n)) (cmdA c a' (.slice A' m n')) 32 32
  have B1 : Blk W w.heap.size 32 (cmdA c a (.slice A m n)) := by rw [hW]; exact (Blk.new _ _ _).alloc _
  have B2 : Blk W (w.heap.size + 1) 32 (cmdA c a' (.slice A' m n')) := by rw [hW]; have := Blk.new (w.alloc (.cells (cmdA c a (.slice A m n)) 32)) 32 (cmdA c a' (.slice A' m n')); simpa using this
  have x0 : W.cell? ⟨w.heap.size, 0, none⟩ = some (.int .i64 c.kind) := bx 0 _ rfl
  have xr0 := fun (w' : World) (h : Ext W w') => h.cellk x0
  clear x0
  have x36 : W.cell? ⟨w.heap.size, 36, none⟩ = some (.string c.st) := bx 36 _ rfl
  have xr36 := fun (w' : World) (h : Ext W w') => h.cellk x36
  clear x36
  have x37 : W.cell? ⟨w.heap.size, 37, none⟩ = some (.string c.su) := bx 37 _ rfl
  have xr37 := fun (w' : World) (h : Ext W w') => h.cellk x37
  clear x37
  have x38 : W.cell? ⟨w.heap.size, 38, none⟩ = some (.int .i64 c.ex) := bx 38 _ rfl
  have xr38 := fun (w' : World) (h : Ext W w') => h.cellk x38
  clear x38
  have x39 : W.cell? ⟨w.heap.size, 39, none⟩ = some (.slice A m n) := bx 39 _ rfl
  have xr39 := fun (w' : World) (h : Ext W w') => h.cellk x39
  clear x39
  have x40 : W.cell? ⟨w.heap.size, 40, none⟩ = some (.int .i64 c.fr) := bx 40 _ rfl
  have xr40 := fun (w' : World) (h : Ext W w') => h.cellk x40
  clear x40
  have x41 : W.cell? ⟨w.heap.size, 41, none⟩ = some (.int .i64 c.ct) := bx 41 _ rfl
  have xr41 := fun (w' : World) (h : Ext W w') => h.cellk x41
  clear x41
  have x46 : W.cell? ⟨w.heap.size, 46, none⟩ = some (.int .i64 c.id) := bx 46 _ rfl
  have xr46 := fun (w' : World) (h : Ext W w') => h.cellk x46
  clear x46
  have y0 : W.cell? ⟨w.heap.size + 1, 0, none⟩ = some (.int .i64 c.kind) := cx 0 _ rfl
  have yr0 := fun (w' : World) (h : Ext W w') => h.cellk y0
  clear y0
  have y36 : W.cell? ⟨w.heap.size + 1, 36, none⟩ = some (.string c.st) := cx 36 _ rfl
  have yr36 := fun (w' : World) (h : Ext W w') => h.cellk y36
  clear y36
  have y37 : W.cell? ⟨w.heap.size + 1, 37, none⟩ = some (.string c.su) := cx 37 _ rfl
  have yr37 := fun (w' : World) (h : Ext W w') => h.cellk y37
  clear y37
  have y38 : W.cell? ⟨w.heap.size + 1, 38, none⟩ = some (.int .i64 c.ex) := cx 38 _ rfl
  have yr38 := fun (w' : World) (h : Ext W w') => h.cellk y38
  clear y38
  have y39 : W.cell? ⟨w.heap.size + 1, 39, none⟩ = some (.slice A' m n') := cx 39 _ rfl
  have yr39 := fun (w' : World) (h : Ext W w') => h.cellk y39
  clear y39
  have y40 : W.cell? ⟨w.heap.size + 1, 40, none⟩ = some (.int .i64 c.fr) := cx 40 _ rfl
  have yr40 := fun (w' : World) (h : Ext W w') => h.cellk y40
  clear y40
  have y41 : W.cell? ⟨w.heap.size + 1, 41, none⟩ = some (.int .i64 c.ct) := cx 41 _ rfl
  have yr41 := fun (w' : World) (h : Ext W w') => h.cellk y41
  clear y41
  have y46 : W.cell? ⟨w.heap.size + 1, 46, none⟩ = some (.int .i64 c.id) := cx 46 _ rfl
  have yr46 := fun (w' : World) (h : Ext W w') => h.cellk y46
  clear y46
  have u := fun (w' : World) (h : Ext W w') => by
    have B := B1.ext h
    have u1 := load_part B 1 (tokA c.tok a) [.int .i64 c.kind] [.string c.st, .string c.su, .int .i64 c.ex, (.slice A m n), .int .i64 c.fr, .int .i64 c.ct, .int .i64 c.gr.r, .string c.gr.p, .bool c.gr.x, .int .i64 c.gr.u, .int .i64 c.id] rfl rfl 27 _ Tryd.underlying27 rfl (by kernel_rfl)
    have u8 := load_part B 42 (grA c.gr) ([.int .i64 c.kind] ++ (tokA c.tok a).toList ++ [.string c.st, .string c.su, .int .i64 c.ex, (.slice A m n), .int .i64 c.fr, .int .i64 c.ct]) [.int .i64 c.id] rfl rfl 30 _ Tryd.underlying30 rfl (by kernel_rfl)
    exact And.intro u1 u8
  have v := fun (w' : World) (h : Ext W w') => by
    have B := B2.ext h
    have u1 := load_part B 1 (tokA c.tok a') [.int .i64 c.kind] [.string c.st, .string c.su, .int .i64 c.ex, (.slice A' m n'), .int .i64 c.fr, .int .i64 c.ct, .int .i64 c.gr.r, .string c.gr.p, .bool c.gr.x, .int .i64 c.gr.u, .int .i64 c.id] rfl rfl 27 _ Tryd.underlying27 rfl (by kernel_rfl)
    have u8 := load_part B 42 (grA c.gr) ([.int .i64 c.kind] ++ (tokA c.tok a').toList ++ [.string c.st, .string c.su, .int .i64 c.ex, (.slice A' m n'), .int .i64 c.fr, .int .i64 c.ct]) [.int .i64 c.id] rfl rfl 30 _ Tryd.underlying30 rfl (by kernel_rfl)
    exact And.intro u1 u8
  have eg := fun (w' : World) => eql_gr w' c.gr
  generalize grA c.gr = G at u v eg
  generalize tokA c.tok a = T1 at *
  generalize tokA c.tok a' = T2 at *
  generalize cmdA c a (.slice A m n) = C1 at *
  generalize cmdA c a' (.slice A' m n') = C2 at *
  have hsn1 := fun (w' : World) (h : Ext W w') => hsn w' (hE.trans h)
  clear bx cx hS hS' hx hsn
  have hY := Ext.refl W
  go_enter Tryd.func26, Tryd.ntmps26
  go_upto_region 1 with fail
  rw [← hW]
  clear hW
  simp only [List.append_eq, List.cons_append, List.nil_append]
  refine wp_region_lit ?_
  iterate 7 (first | (refine pl_off (a' := ?_) rfl (by rfl) ?_ ?_; rotate_left 1; (· simp only [Act.put, List.setIfInBounds_toArray, List.set_cons_zero, List.set_cons_succ]; rfl)) | (refine pl_y (v := ?_) (a' := ?_) rfl (by rfl) ?_ ?_ ?_; rotate_left 2; (· go_simp; with_reducible rfl); (· simp only [Act.put, List.setIfInBounds_toArray, List.set_cons_zero, List.set_cons_succ]; rfl)))
  refine pl_y (v := ?_) (a' := ?_) rfl (by rfl) ?_ ?_ ?_
  rotate_left 2
  · (refine (run_op_load rfl ?_ ((u _ hY).1)).trans ?_; (· rfl); (· with_reducible rfl))
  · simp only [Act.put, List.setIfInBounds_toArray, List.set_cons_zero, List.set_cons_succ]; rfl
  iterate 1 (first | (refine pl_off (a' := ?_) rfl (by rfl) ?_ ?_; rotate_left 1; (· simp only [Act.put, List.setIfInBounds_toArray, List.set_cons_zero, List.set_cons_succ]; rfl)) | (refine pl_y (v := ?_) (a' := ?_) rfl (by rfl) ?_ ?_ ?_; rotate_left 2; (· go_simp; with_reducible rfl); (· simp only [Act.put, List.setIfInBounds_toArray, List.set_cons_zero, List.set_cons_succ]; rfl)))
  refine pl_y (v := ?_) (a' := ?_) rfl (by rfl) ?_ ?_ ?_
  rotate_left 2
  · (refine (run_op_load rfl ?_ ((v _ hY).1)).trans ?_; (· rfl); (· with_reducible rfl))
  · simp only [Act.put, List.setIfInBounds_toArray, List.set_cons_zero, List.set_cons_succ]; rfl
  refine pl_call (args := ?_) Tryd.func13 (by kernel_rfl) rfl (by rfl) rfl rfl ?_ ?_
  rotate_left 1
  · go_simp; with_reducible rfl
  (with_reducible refine (hst W hE).mono ?_)
  rintro e w1 ⟨rfl, hY1⟩
  refine ⟨_, _, rfl, (by simp only [Act.put, List.setIfInBounds_toArray, List.set_cons_zero, List.set_cons_succ]; rfl), ?_⟩
  iterate 27 (first | (refine pl_off (a' := ?_) rfl (by rfl) ?_ ?_; rotate_left 1; (· simp only [Act.put, List.setIfInBounds_toArray, List.set_cons_zero, List.set_cons_succ]; rfl)) | (refine pl_y (v := ?_) (a' := ?_) rfl (by rfl) ?_ ?_ ?_; rotate_left 2; (· go_simp; with_reducible rfl); (· simp only [Act.put, List.setIfInBounds_toArray, List.set_cons_zero, List.set_cons_succ]; rfl)))
  refine pl_call (args := ?_) Tryd.func57 (by kernel_rfl) rfl (by rfl) rfl rfl ?_ ?_
  rotate_left 1
  · go_simp; with_reducible rfl
  (with_reducible refine (hsn1 _ hY1).mono ?_)
  rintro e w2 ⟨rfl, hY2⟩
  refine ⟨_, _, rfl, (by simp only [Act.put, List.setIfInBounds_toArray, List.set_cons_zero, List.set_cons_succ]; rfl), ?_⟩
  have hY3 := hY1.trans hY2
  iterate 17 (first | (refine pl_off (a' := ?_) rfl (by rfl) ?_ ?_; rotate_left 1; (· simp only [Act.put, List.setIfInBounds_toArray, List.set_cons_zero, List.set_cons_succ]; rfl)) | (refine pl_y (v := ?_) (a' := ?_) rfl (by rfl) ?_ ?_ ?_; rotate_left 2; (· go_simp; with_reducible rfl); (· simp only [Act.put, List.setIfInBounds_toArray, List.set_cons_zero, List.set_cons_succ]; rfl)))
  refine pl_y (v := ?_) (a' := ?_) rfl (by rfl) ?_ ?_ ?_
  rotate_left 2
  · (refine (run_op_load rfl ?_ ((u _ hY3).2)).trans ?_; (· rfl); (· with_reducible rfl))
  · simp only [Act.put, List.setIfInBounds_toArray, List.set_cons_zero, List.set_cons_succ]; rfl
  iterate 1 (first | (refine pl_off (a' := ?_) rfl (by rfl) ?_ ?_; rotate_left 1; (· simp only [Act.put, List.setIfInBounds_toArray, List.set_cons_zero, List.set_cons_succ]; rfl)) | (refine pl_y (v := ?_) (a' := ?_) rfl (by rfl) ?_ ?_ ?_; rotate_left 2; (· go_simp; with_reducible rfl); (· simp only [Act.put, List.setIfInBounds_toArray, List.set_cons_zero, List.set_cons_succ]; rfl)))
  refine pl_y (v := ?_) (a' := ?_) rfl (by rfl) ?_ ?_ ?_
  rotate_left 2
  · (refine (run_op_load rfl ?_ ((v _ hY3).2)).trans ?_; (· rfl); (· with_reducible rfl))
  · simp only [Act.put, List.setIfInBounds_toArray, List.set_cons_zero, List.set_cons_succ]; rfl
  iterate 10 (first | (refine pl_off (a' := ?_) rfl (by rfl) ?_ ?_; rotate_left 1; (· simp only [Act.put, List.setIfInBounds_toArray, List.set_cons_zero, List.set_cons_succ]; rfl)) | (refine pl_y (v := ?_) (a' := ?_) rfl (by rfl) ?_ ?_ ?_; rotate_left 2; (· go_simp; with_reducible rfl); (· simp only [Act.put, List.setIfInBounds_toArray, List.set_cons_zero, List.set_cons_succ]; rfl)))
  refine wpList_nil ?_
  go_wp2_with fail
  go_ret
  exact ⟨rfl, hE.trans hY3⟩
end Go.Proofs.YtgfhbachgniipaaDoor

/-! Commands: written over; how great one is. -/
namespace Go.Proofs.YtgfhbachgniipaaDoor
set_option linter.unusedVariables false
set_option linter.unusedSimpArgs false
open Go.RowKit
/-- The grants and bodies of a command in the blocks from lo on, below hi, the grants in a part of its own. -/
def CmdIn (w : World) (lo hi : Nat) (c : Cmd) (a b : Value) : Prop := ∃ l h, lo ≤ l ∧ h ≤ hi ∧ GsV (only w l h) c.tok.gs a ∧ BsV (only (gap w l h) lo hi) c.bodies b
end Go.Proofs.YtgfhbachgniipaaDoor

/-! How great a command, a token is. -/
namespace Go.Proofs.YtgfhbachgniipaaDoor
set_option linter.unusedVariables false
set_option linter.unusedSimpArgs false
open Go.RowKit
structure TokSmall (t : Tok) : Prop where
  n : t.gs.length ≤ 40
  ten : t.ten.size ≤ 4096
  p : ∀ g ∈ t.gs, g.p.size ≤ 4096
structure CmdSmall (c : Cmd) (rows bytes : Nat) : Prop where
  n : c.tok.gs.length ≤ rows
  m : c.bodies.length ≤ rows
  all : allN c.bodies 0 ≤ bytes
  ten : c.tok.ten.size ≤ bytes
  st : c.st.size ≤ bytes
  su : c.su.size ≤ bytes
  p : c.gr.p.size ≤ bytes
theorem dec_false {a b : Nat} (h : decide ((a : Int) < (b : Int)) = false) : b ≤ a := by simp at h; omega
def BigP (w : World) (S : Prop) (e : Ending) (w' : World) : Prop := ∃ v, e = .returned (.bool v) ∧ (v = false → S) ∧ Ext w w'
theorem bigP_true {w w' : World} {S : Prop} (h : Ext w w') : BigP w S (.returned (.bool true)) w' := ⟨true, rfl, (fun h => by cases h), h⟩
theorem bigP_of {w w' : World} {S : Prop} {b v : Bool} (e : b = v) (hS : v = false → S) (h : Ext w w') : BigP w S (.returned (.bool b)) w' := ⟨v, by rw [e], hS, h⟩
set_option maxHeartbeats 9000000 in
set_option maxRecDepth 100000 in
theorem wide_any (w : World) (t : Tok) (a : Value) (h : GsV w t.gs a) (hn : t.gs.length ≤ 9223372036854775807) :
    Calls Tryd.prog 9 #[.agg (tokA t a)] w (BigP w (TokSmall t)) := by
  obtain ⟨A, n, rfl, hc, hG⟩ := h
  obtain ⟨W, hW, hE, bx⟩ := box1 w (tokA t (.slice A t.gs.length n)) 27
  have x0 : W.cell? ⟨w.heap.size, 0, none⟩ = some (.string t.ten) := bx 0 _ rfl
  have x2 : W.cell? ⟨w.heap.size, 2, none⟩ = some (.slice A t.gs.length n) := bx 2 _ rfl
  obtain ⟨p, hp⟩ : ∃ n, t.gs.length = n := ⟨_, rfl⟩
  rw [hp] at hG hc hn x2
  have HP := Lib.hid hp
  rw [hp] at hW
  clear bx hp
  have hS := hG.ext hE
  clear hG
  by_cases h0 : 40 < p
  · go_enter Tryd.func9, Tryd.ntmps9
    go_upto_region 1 with fail
    rw [HP.out, ← hW]
    clear hW
    go_wp2_with fail
    go_ret
    exact bigP_true hE
  by_cases h1 : 4096 < t.ten.size
  · go_enter Tryd.func9, Tryd.ntmps9
    go_upto_region 1 with fail
    rw [HP.out, ← hW]
    clear hW
    go_wp2_with fail
    go_ret
    exact bigP_true hE
  go_enter Tryd.func9, Tryd.ntmps9
  go_upto_region 1 with fail
  rw [HP.out, ← hW]
  clear hW
  go_wp2_with fail
  go_loopw [3] (fun i wr => ∃ k : Nat, k ≤ p ∧ i = .int .i64 k ∧ (∀ g ∈ t.gs.take k, g.p.size ≤ 4096) ∧ wr = W) (fun i _ => p - (intOf i).toNat)
  case atStart => exact ⟨0, by omega, rfl, (fun g hg => by simp at hg), rfl⟩
  case round =>
    obtain ⟨k, hkn, rfl, hall, rfl⟩ := hrel
    by_cases hlt : k < p
    · obtain ⟨b, o, cs, rfl, hK, hcell⟩ := hS.get k hlt
      obtain rfl := gr_cells hK
      have hl := HP.out
      have ht : t.gs.take (k + 1) = t.gs.take k ++ [t.gs[k]'(by omega)] := List.take_succ_eq_append_getElem (by omega)
      generalize t.gs[k]'(by omega) = x at *
      have y1 := hcell 1 (.string x.p) rfl
      have y1 : wr.cell? ⟨b, o + k * 4 + 1, none⟩ = some (.string x.p) := y1
      have HT := Lib.hid ht
      have HA := Lib.hid hall
      by_cases hz : 4096 < x.p.size
      · clear hS hK hcell ht hl hall
        go_wp2_with fail
        go_ret
        exact bigP_true hE
      · clear hS hK hcell ht hl hall
        go_wp2_with fail
        go_roundw
        case rel =>
          refine ⟨k + 1, by omega, by go_num, fun g hg => ?_, by trivial⟩
          rw [HT.out, List.mem_append, List.mem_singleton] at hg
          rcases hg with hg | rfl
          · exact HA.out g hg
          · omega
        case measure => simp [intOf]; omega
    · obtain rfl : k = p := by omega
      rw [← HP.out, List.take_length] at hall
      have HA := Lib.hid hall
      clear hS hall
      go_wp2_with fail
      go_ret
      exact bigP_of rfl (fun _ => ⟨by rw [HP.out]; omega, by omega, HA.out⟩) hE
end Go.Proofs.YtgfhbachgniipaaDoor
