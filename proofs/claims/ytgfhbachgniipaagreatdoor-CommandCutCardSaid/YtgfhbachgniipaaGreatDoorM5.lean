/- Commands and answers as cells; a part of a block read and written over. (and what follows) -/
import Derived.Test.YtgfhbachgniipaaGreatDoorM4
import Derived.Test.YtgfhbachgniipaaGreatDoorM2
import Derived.Deep.MidRow
import Derived.DeepKeys
import Derived.Laws.StructEq
import Derived.Great.BuildSlice
import Derived.Test.YtgfhbachgniipaaGreatDoorM1
/-! Commands and answers as cells; a part of a block read and written over. -/
namespace Go.Proofs.YtgfhbachgniipaaGreatDoor
set_option linter.unusedVariables false
set_option linter.unusedSimpArgs false
open Go.RowKit
def mb (m : List UInt8) (i : Nat) : Value := .int .u8 (m.getD i 0).toNat
def macA (m : List UInt8) : Array Value := #[mb m 0, mb m 1, mb m 2, mb m 3, mb m 4, mb m 5, mb m 6, mb m 7, mb m 8, mb m 9, mb m 10, mb m 11, mb m 12, mb m 13, mb m 14, mb m 15, mb m 16, mb m 17, mb m 18, mb m 19, mb m 20, mb m 21, mb m 22, mb m 23, mb m 24, mb m 25, mb m 26, mb m 27, mb m 28, mb m 29, mb m 30, mb m 31]
def tokA (t : Tok) (a : Value) : Array Value := #[.string t.ten, .int .i64 t.id, a, mb t.mac 0, mb t.mac 1, mb t.mac 2, mb t.mac 3, mb t.mac 4, mb t.mac 5, mb t.mac 6, mb t.mac 7, mb t.mac 8, mb t.mac 9, mb t.mac 10, mb t.mac 11, mb t.mac 12, mb t.mac 13, mb t.mac 14, mb t.mac 15, mb t.mac 16, mb t.mac 17, mb t.mac 18, mb t.mac 19, mb t.mac 20, mb t.mac 21, mb t.mac 22, mb t.mac 23, mb t.mac 24, mb t.mac 25, mb t.mac 26, mb t.mac 27, mb t.mac 28, mb t.mac 29, mb t.mac 30, mb t.mac 31]
def grA (g : Grant) : Array Value := #[.int .i64 g.r, .string g.p, .bool g.x, .int .i64 g.u]
def cmdA (c : Cmd) (a b : Value) : Array Value := #[.int .i64 c.kind, .string c.tok.ten, .int .i64 c.tok.id, a, mb c.tok.mac 0, mb c.tok.mac 1, mb c.tok.mac 2, mb c.tok.mac 3, mb c.tok.mac 4, mb c.tok.mac 5, mb c.tok.mac 6, mb c.tok.mac 7, mb c.tok.mac 8, mb c.tok.mac 9, mb c.tok.mac 10, mb c.tok.mac 11, mb c.tok.mac 12, mb c.tok.mac 13, mb c.tok.mac 14, mb c.tok.mac 15, mb c.tok.mac 16, mb c.tok.mac 17, mb c.tok.mac 18, mb c.tok.mac 19, mb c.tok.mac 20, mb c.tok.mac 21, mb c.tok.mac 22, mb c.tok.mac 23, mb c.tok.mac 24, mb c.tok.mac 25, mb c.tok.mac 26, mb c.tok.mac 27, mb c.tok.mac 28, mb c.tok.mac 29, mb c.tok.mac 30, mb c.tok.mac 31, .string c.st, .string c.su, .int .i64 c.ex, b, .int .i64 c.fr, .int .i64 c.ct, .int .i64 c.gr.r, .string c.gr.p, .bool c.gr.x, .int .i64 c.gr.u, .int .i64 c.id]
def shA (s : Shn) (b : Value) : Array Value := #[.string s.st, .string s.su, .int .i64 s.ver, .int .i64 s.pos, .int .i64 s.code, b]
def enA (e : Ent) : Array Value := #[.int .i64 e.no, .int .i64 e.clock, .int .i64 e.kind, .int .i64 e.code, .int .i64 e.id, .string e.st, .string e.su, mb e.sum 0, mb e.sum 1, mb e.sum 2, mb e.sum 3, mb e.sum 4, mb e.sum 5, mb e.sum 6, mb e.sum 7, mb e.sum 8, mb e.sum 9, mb e.sum 10, mb e.sum 11, mb e.sum 12, mb e.sum 13, mb e.sum 14, mb e.sum 15, mb e.sum 16, mb e.sum 17, mb e.sum 18, mb e.sum 19, mb e.sum 20, mb e.sum 21, mb e.sum 22, mb e.sum 23, mb e.sum 24, mb e.sum 25, mb e.sum 26, mb e.sum 27, mb e.sum 28, mb e.sum 29, mb e.sum 30, mb e.sum 31]
def ansA (x : Ans) (s a e : Value) : Array Value := #[.int .i64 x.code, .int .i64 x.num, s, .string x.tok.ten, .int .i64 x.tok.id, a, mb x.tok.mac 0, mb x.tok.mac 1, mb x.tok.mac 2, mb x.tok.mac 3, mb x.tok.mac 4, mb x.tok.mac 5, mb x.tok.mac 6, mb x.tok.mac 7, mb x.tok.mac 8, mb x.tok.mac 9, mb x.tok.mac 10, mb x.tok.mac 11, mb x.tok.mac 12, mb x.tok.mac 13, mb x.tok.mac 14, mb x.tok.mac 15, mb x.tok.mac 16, mb x.tok.mac 17, mb x.tok.mac 18, mb x.tok.mac 19, mb x.tok.mac 20, mb x.tok.mac 21, mb x.tok.mac 22, mb x.tok.mac 23, mb x.tok.mac 24, mb x.tok.mac 25, mb x.tok.mac 26, mb x.tok.mac 27, mb x.tok.mac 28, mb x.tok.mac 29, mb x.tok.mac 30, mb x.tok.mac 31, e]
theorem macA_at (m : List UInt8) (i : Nat) (h : i < 32) : (macA m)[i]? = some (mb m i) := by
  obtain rfl | rfl | rfl | rfl | rfl | rfl | rfl | rfl | rfl | rfl | rfl | rfl | rfl | rfl | rfl | rfl | rfl | rfl | rfl | rfl | rfl | rfl | rfl | rfl | rfl | rfl | rfl | rfl | rfl | rfl | rfl | rfl := (by omega : i = 0 ∨ i = 1 ∨ i = 2 ∨ i = 3 ∨ i = 4 ∨ i = 5 ∨ i = 6 ∨ i = 7 ∨ i = 8 ∨ i = 9 ∨ i = 10 ∨ i = 11 ∨ i = 12 ∨ i = 13 ∨ i = 14 ∨ i = 15 ∨ i = 16 ∨ i = 17 ∨ i = 18 ∨ i = 19 ∨ i = 20 ∨ i = 21 ∨ i = 22 ∨ i = 23 ∨ i = 24 ∨ i = 25 ∨ i = 26 ∨ i = 27 ∨ i = 28 ∨ i = 29 ∨ i = 30 ∨ i = 31)
  all_goals rfl
theorem macA_size (m : List UInt8) : (macA m).size = 32 := rfl
theorem tokA_size (t : Tok) (a : Value) : (tokA t a).size = 35 := rfl
theorem cmdA_size (c : Cmd) (a b : Value) : (cmdA c a b).size = 47 := rfl
theorem enA_size (e : Ent) : (enA e).size = 39 := rfl
theorem ansA_size (x : Ans) (s a e : Value) : (ansA x s a e).size = 39 := rfl
/-- C is the cells D with others ahead of them and behind. -/
theorem part_at {C : Array Value} {pre D post : List Value} (h : C = (pre ++ D ++ post).toArray) {o : Nat} (ho : pre.length = o) (j : Nat) (v : Value) (hv : D[j]? = some v) : C[o + j]? = some v := by
  have hj := (List.getElem?_eq_some_iff.1 hv).1
  rw [h, List.getElem?_toArray, List.append_assoc, List.getElem?_append_right (by omega), show o + j - pre.length = j by omega, List.getElem?_append_left hj]
  exact hv
section
variable {w : World} {g : Nat} {T : TypeId} {C : Array Value}
/-- A part of a block, loaded. -/
theorem load_part (B : Blk w g T C) (o : Nat) (D : Array Value) (pre post : List Value) (h : C = (pre ++ D.toList ++ post).toArray) (ho : pre.length = o) (ty : TypeId) (d : TypeDesc) (hu : Tryz.prog.underlying ty = some d) (hd : d.isRow = true) (hi : (Tryz.prog.info? ty).map (·.size) = some D.size) :
    (Instr.loadAt ty (.pointer (some ⟨g, o, none⟩))).run Tryz.prog w = .ok (.agg D) w := by
  have := run_loadAt_mid (P := Tryz.prog) w g o ty D.toList d (fun j v hv => B.cell (o + j) (part_at h ho j v hv)) hu hd (by rw [Array.length_toList]; exact hi)
  simpa using this
theorem load_whole (B : Blk w g T C) (ty : TypeId) (d : TypeDesc) (hu : Tryz.prog.underlying ty = some d) (hd : d.isRow = true) (hi : (Tryz.prog.info? ty).map (·.size) = some C.size) :
    (Instr.loadAt ty (.pointer (some ⟨g, 0, none⟩))).run Tryz.prog w = .ok (.agg C) w :=
  load_part B 0 C [] [] (by simp) rfl ty d hu hd hi
theorem setCells_blk : ∀ (vs : List Value) (w : World) (pre D post : List Value), D.length = vs.length → Blk w g T (pre ++ D ++ post).toArray → Blk (w.setCells g pre.length vs) g T (pre ++ vs ++ post).toArray
  | [], w, pre, D, post, hl, B => by
    have : D = [] := List.eq_nil_of_length_eq_zero hl
    subst this
    exact B
  | v :: vs, w, pre, [], post, hl, B => by simp at hl
  | v :: vs, w, pre, d :: D, post, hl, B => by
    have B2 := B.set_ pre.length v
    have e : (pre ++ d :: D ++ post).toArray.setIfInBounds pre.length v = ((pre ++ [v]) ++ D ++ post).toArray := by
      rw [List.setIfInBounds_toArray]
      congr 1
      simp [List.set_append]
    rw [e] at B2
    have h := setCells_blk vs (w.setCell ⟨g, pre.length, none⟩ v) (pre ++ [v]) D post (by simpa using hl) B2
    rw [List.length_append, List.length_singleton] at h
    rw [World.setCells]
    have e2 : pre ++ v :: vs ++ post = pre ++ [v] ++ vs ++ post := by simp
    rw [e2]
    exact h
theorem setCells_exc : ∀ (vs : List Value) (w : World) (o : Nat), Exc g (g + 1) w (w.setCells g o vs)
  | [], w, o => Exc.refl _ _ _
  | v :: vs, w, o => by
    rw [World.setCells]
    exact (Exc.setCell (p := ⟨g, o, none⟩) (Nat.le_refl _) (Nat.lt_succ_self _) v).trans (setCells_exc vs _ _)
/-- A part of a block, stored. -/
theorem store_part (B : Blk w g T C) (o : Nat) (D : Array Value) (pre old post : List Value) (h : C = (pre ++ old ++ post).toArray) (ho : pre.length = o) (hl : old.length = D.size) (ty : TypeId) (hi : (Tryz.prog.info? ty).map (·.size) = some D.size) (h1 : D.all (·.oneCell') = true) :
    ∃ w', (Instr.storeAt ty (.pointer (some ⟨g, o, none⟩)) (.agg D)).run Tryz.prog w = .ok () w' ∧ Blk w' g T (pre ++ D.toList ++ post).toArray ∧ Exc g (g + 1) w w' := by
  refine ⟨w.setCells g o D.toList, ?_, ?_, setCells_exc _ _ _⟩
  · refine run_storeAt_mid w g o ty D (fun j hj => ⟨?_, B.frozen _⟩) hi h1
    obtain ⟨v, hv⟩ : ∃ v, old[j]? = some v := ⟨_, List.getElem?_eq_getElem (by omega)⟩
    rw [B.cell (o + j) (part_at h ho j v hv)]
    rfl
  · subst ho
    exact setCells_blk D.toList w pre old post (by rw [Array.length_toList]; exact hl) (by rw [← h]; exact B)
end
/-- An operation that loads, its value given. -/
theorem run_op_load {P : Program} {o : Oper} {ev : Operand → Value} {ty : TypeId} {x : Operand} {w : World} {p v : Value} (ho : o.op = .load ty x) (hx : ev x = p) (h : (Instr.loadAt ty p).run P w = .ok v w) : (execOp ev o).run P w = .ok (.value v) w := by
  unfold execOp
  simp only [ho, hx, Sem.run_bind, h, Result.andThen_ok, Sem.run_pure]
theorem run_op_store {P : Program} {o : Oper} {ev : Operand → Value} {ty : TypeId} {x y : Operand} {w w' : World} {p v : Value} (ho : o.op = .store ty x y) (hx : ev x = p) (hy : ev y = v) (h : (Instr.storeAt ty p v).run P w = .ok () w') : (execOp ev o).run P w = .ok .skip w' := by
  unfold execOp
  simp only [ho, hx, hy, Sem.run_bind, h, Result.andThen_ok, Sem.run_pure]
theorem wpList_load_by {P : Program} {ops : Array Oper} {rest : List Oper} {o : Oper} {a : Act} {w : World} {Q : Exit → Act → World → Prop} (hgd : o.guard = none) {ty : TypeId} {x : Operand} (ho : o.op = .load ty x) {p v : Value} (hx : a.eval x = p) (h : (Instr.loadAt ty p).run P w = .ok v w)
    (k : wpList P ops Q rest (a.put o.dst v) w) : wpList P ops Q (o :: rest) a w :=
  wpList_plain hgd fun K hK => by
    unfold Oper.wp
    rw [run_op_load ho hx h]
    exact hK _ _ k
theorem wpList_store_by {P : Program} {ops : Array Oper} {rest : List Oper} {o : Oper} {a : Act} {w w' : World} {Q : Exit → Act → World → Prop} (hgd : o.guard = none) {ty : TypeId} {x y : Operand} (ho : o.op = .store ty x y) {p v : Value} (hx : a.eval x = p) (hy : a.eval y = v) (h : (Instr.storeAt ty p v).run P w = .ok () w')
    (k : wpList P ops Q rest (a.put o.dst undef) w') : wpList P ops Q (o :: rest) a w :=
  wpList_plain hgd fun K hK => by
    unfold Oper.wp
    rw [run_op_store ho hx hy h]
    exact hK _ _ k
theorem eqItems_u8 (d : Nat) (w : World) (m : List UInt8) : ∀ (is : List Nat), (∀ i ∈ is, i < 32) → (Op.eqItems (d + 1) 5 1 (macA m) (macA m) is).run Tryz.prog w = .ok true w
  | [], _ => by simp [Op.eqItems]
  | i :: is, h => by
    have hp : (part 5 (macA m) (i * 1)).run Tryz.prog w = .ok (mb m i) w := by
      rw [Nat.mul_one]
      unfold part
      have ha : (isAgg 5).run Tryz.prog w = .ok false w := by
        unfold isAgg
        rw [Sem.run_bind, run_underlying Tryz.underlying5 w]
        rfl
      rw [Sem.run_bind, ha]
      simp [macA_at m i (h i (by simp))]
    have hq : (Op.equalIn (d + 1) 5 (mb m i) (mb m i)).run Tryz.prog w = .ok true w := by
      unfold mb
      rw [run_equalIn_int w d 5 _ _ _ _ Tryz.underlying5]
      simp
    simp only [Op.eqItems, Sem.run_bind, hp, hq, Result.andThen_ok]
    have := eqItems_u8 d w m is (fun j hj => h j (by simp [hj]))
    simpa using this
theorem eql_mac (w : World) (m : List UInt8) : (binOp .eql 24 (.agg (macA m)) (.agg (macA m))).run Tryz.prog w = .ok (.bool true) w := by
  simp only [binOp]
  have h := run_equalIn_array w 9999 (macA m) (macA m) Tryz.underlying24 (i := (Tryz.prog.info? 5).get (by kernel_rfl)) (by kernel_rfl)
  have hc : Tryz.prog.cellsOf 5 = 1 := by kernel_rfl
  rw [hc] at h
  have h2 := eqItems_u8 9998 w m (List.range 32) (fun i hi => List.mem_range.1 hi)
  simp [Op.equal, Op.maxDepth, h, h2]
end Go.Proofs.YtgfhbachgniipaaGreatDoor

/-! Lists of grants and of entries: elements as rows of cells; held against one another, copied, written over. -/
namespace Go.Proofs.YtgfhbachgniipaaGreatDoor
set_option linter.unusedVariables false
set_option linter.unusedSimpArgs false
open Go.RowKit
theorem eql_gr (w : World) (g : Grant) : (binOp .eql 29 (.agg (grA g)) (.agg (grA g))).run Tryz.prog w = .ok (.bool true) w := by
  unfold grA
  go_simp
theorem equalIn_mac (w : World) (d : Nat) (m : List UInt8) : (Op.equalIn (d + 2) 24 (.agg (macA m)) (.agg (macA m))).run Tryz.prog w = .ok true w := by
  have h := run_equalIn_array w (d + 1) (macA m) (macA m) Tryz.underlying24 (i := (Tryz.prog.info? 5).get (by kernel_rfl)) (by kernel_rfl)
  have hc : Tryz.prog.cellsOf 5 = 1 := by kernel_rfl
  rw [hc, eqItems_u8 d w m (List.range 32) (fun i hi => List.mem_range.1 hi)] at h
  exact h
theorem eql_en (w : World) (e : Ent) : (binOp .eql 72 (.agg (enA e)) (.agg (enA e))).run Tryz.prog w = .ok (.bool true) w := by
  have h := equalIn_mac w 9997 e.sum
  unfold macA at h
  unfold enA
  go_simp
def rdGr : Rd Grant := (Rd.pair (Rd.int .i64) (Rd.pair Rd.str (Rd.pair Rd.bool (Rd.int .i64)))).iso fun x => (x.r, x.p, x.x, x.u)
theorem gr_cells {w : World} {x : Grant} {cs : List Value} (h : rdGr.K w x cs) : cs = (grA x).toList := by
  obtain ⟨_, _, rfl, rfl, _, _, rfl, rfl, _, _, rfl, rfl, rfl⟩ := h
  rfl
theorem gr_K (w : World) (x : Grant) : rdGr.K w x (grA x).toList := ⟨_, _, rfl, rfl, _, _, rfl, rfl, _, _, rfl, rfl, rfl⟩
theorem arr_mac {w : World} {m : List UInt8} {cs : List Value} (h : (Rd.arr 32 Rd.u8).K w m cs) : cs = (macA m).toList ∧ m.length = 32 := by
  obtain ⟨h1, h2, h3⟩ := h
  have h2 : cs.length = 32 := h2
  refine ⟨?_, h1⟩
  apply List.ext_getElem?
  intro i
  by_cases hi : i < 32
  · have h4 : (cs.drop (i * 1)).take 1 = [.int .u8 (m[i]'(by omega)).toNat] := h3 i (by omega)
    have h5 : cs[i]? = some (.int .u8 (m[i]'(by omega)).toNat) := by
      have := congrArg (fun l : List Value => l[0]?) h4
      simpa [List.getElem?_take, List.getElem?_drop] using this
    rw [h5, Array.getElem?_toList, macA_at m i hi]
    unfold mb
    rw [List.getD_eq_getElem?_getD, List.getElem?_eq_getElem (by omega)]
    rfl
  · rw [List.getElem?_eq_none (by omega), Array.getElem?_toList, Array.getElem?_eq_none (by rw [macA_size]; omega)]
theorem mac_arr (w : World) (m : List UInt8) (h : m.length = 32) : (Rd.arr 32 Rd.u8).K w m (macA m).toList := by
  refine ⟨h, rfl, fun i hi => ?_⟩
  show ((macA m).toList.drop (i * 1)).take 1 = [.int .u8 m[i].toNat]
  have h4 := macA_at m i (by omega)
  rw [← Array.getElem?_toList] at h4
  obtain ⟨h5, h6⟩ := List.getElem?_eq_some_iff.1 h4
  rw [Nat.mul_one, List.drop_eq_getElem_cons h5, h6]
  unfold mb
  rw [List.getD_eq_getElem?_getD, List.getElem?_eq_getElem (by omega)]
  rfl
def rdEn : Rd Ent := (Rd.pair (Rd.int .i64) (Rd.pair (Rd.int .i64) (Rd.pair (Rd.int .i64) (Rd.pair (Rd.int .i64) (Rd.pair (Rd.int .i64) (Rd.pair Rd.str (Rd.pair Rd.str (Rd.arr 32 Rd.u8)))))))).iso fun x => (x.no, x.clock, x.kind, x.code, x.id, x.st, x.su, x.sum)
theorem en_cells {w : World} {x : Ent} {cs : List Value} (h : rdEn.K w x cs) : cs = (enA x).toList := by
  obtain ⟨_, _, rfl, rfl, _, _, rfl, rfl, _, _, rfl, rfl, _, _, rfl, rfl, _, _, rfl, rfl, _, _, rfl, rfl, _, _, rfl, rfl, h⟩ := h
  rw [(arr_mac h).1]
  rfl
theorem en_sum {w : World} {x : Ent} {cs : List Value} (h : rdEn.K w x cs) : x.sum.length = 32 := by
  obtain ⟨_, _, rfl, rfl, _, _, rfl, rfl, _, _, rfl, rfl, _, _, rfl, rfl, _, _, rfl, rfl, _, _, rfl, rfl, _, _, rfl, rfl, h⟩ := h
  exact (arr_mac h).2
theorem en_K (w : World) (x : Ent) (h : x.sum.length = 32) : rdEn.K w x (enA x).toList := ⟨_, _, rfl, rfl, _, _, rfl, rfl, _, _, rfl, rfl, _, _, rfl, rfl, _, _, rfl, rfl, _, _, rfl, rfl, _, _, rfl, rfl, mac_arr w x.sum h⟩
theorem el_addr {α : Type} {d : Rd α} {w : World} {A : Option Addr} {n : Nat} {xs : List α} (h : d.Sl w A n xs) (k : Nat) (hk : k < n) : ∃ b o, A = some ⟨b, o, none⟩ := by
  obtain ⟨b, o, cs, e, _⟩ := h.get k hk
  exact ⟨b, o, e⟩
/-- Element k of a slice, loaded. -/
theorem el_load {α : Type} {d : Rd α} {enc : α → Array Value} (hK : ∀ {w x cs}, d.K w x cs → cs = (enc x).toList) {w : World} {b o : Nat} {n : Nat} {xs : List α} (h : d.Sl w (some ⟨b, o, none⟩) n xs) (k : Nat) (x : α) (hx : xs[k]? = some x) (ty : TypeId) (t : TypeDesc)
    (hu : Tryz.prog.underlying ty = some t) (hd : t.isRow = true) (hi : (Tryz.prog.info? ty).map (·.size) = some d.sz) :
    (Instr.loadAt ty (.pointer (some ⟨b, o + k * d.sz, none⟩))).run Tryz.prog w = .ok (.agg (enc x)) w := by
  obtain ⟨hk, hx⟩ := List.getElem?_eq_some_iff.1 hx
  obtain ⟨b', o', cs, e, hk', hc⟩ := h.get k (by rw [← h.1]; exact hk)
  cases e
  rw [hx] at hk'
  have hl := d.len hk'
  have hcs := hK hk'
  have := run_loadAt_mid (P := Tryz.prog) w b (o + k * d.sz) ty cs t hc hu hd (by rw [hi, hl])
  rw [this, hcs]
theorem run_build1 (w : World) (t e : TypeId) (C : Array Value) (ie : TypeInfo) (z : Value) (hu : Tryz.prog.underlying t = some (.slice e)) (hie : Tryz.prog.info? e = some ie) (hz : ie.zero = some z) (hs : ie.size = C.size) (h0 : 0 < C.size) (hC : C.size ≤ 1000) :
    (Instr.buildSlice t 1 #[(0, .agg C)]).run Tryz.prog w = .ok (.slice (some ⟨w.heap.size, 0, none⟩) 1 1) (w.alloc (.cells C e)) := by
  refine run_buildSlice w t e 1 _ C ie z hu hie hz (by rw [hs]; omega) (by rw [hs]; omega) ?_
  have h := Great.fill_whole (s := ie.size) (by omega) [.agg C] ((Array.range (1 * ie.size)).map (z.cells[· % z.cells.size]!)) (fun v hv => by
    simp only [List.mem_singleton] at hv
    subst hv
    simp [Value.cells, hs]) (by simp)
  simpa [Value.cells] using h
theorem fold_all {Z C : Array Value} {n : Nat} (h0 : 0 < n) (hz : Z.size = n) (hc : C.size = n) : Array.foldl (fun (cs : Array Value) (x : Value × Nat) => cs.setIfInBounds x.snd x.fst) Z C.zipIdx 0 n = C := by
  have h := Great.fill_whole (s := n) h0 [.agg C] Z (fun v hv => by
    simp only [List.mem_singleton] at hv
    subst hv
    exact hc) (by simp [hz])
  simp [Instr.fill, Value.cells, hz, hc] at h
  exact h
/-- Cells that are one cell each. -/
theorem one_gr (x : Grant) : ∀ u ∈ (grA x).toList, u.oneCell' = true := by
  intro u hu
  simp only [grA, List.mem_cons, List.not_mem_nil, or_false] at hu
  rcases hu with rfl | rfl | rfl | rfl <;> rfl
theorem one_mac (m : List UInt8) : (macA m).all (·.oneCell') = true := by simp [macA, mb, Value.oneCell']
theorem one_enA (x : Ent) : (enA x).all (·.oneCell') = true := by simp [enA, mb, Value.oneCell']
theorem one_en (x : Ent) : ∀ u ∈ (enA x).toList, u.oneCell' = true := fun u hu => Array.all_eq_true_iff_forall_mem.1 (one_enA x) u (by simpa using hu)
theorem new_cellsA (w : World) (t : TypeId) (cs : Array Value) (j : Nat) (u : Value) (h : cs.toList[j]? = some u) : (w.alloc (.cells cs t)).cell? ((⟨w.heap.size, 0, none⟩ : Addr).add j) = some u := new_cells w t cs j u h
theorem own_onlyM {α : Type} {d : Rd α} {f : α → Array Value} (hf : ∀ x, (f x).size = d.sz) {lo hi base : Nat} {w : World} {e : TypeId} {v : Value} {l : List α} (hK : ∀ x, x ∈ l → ∀ w, d.K w x (f x).toList)
    (h : w.ownsRow base e d.sz v l.length (l.flatMap fun x => (f x).toList)) (hb : lo ≤ base) (hh : w.heap.size ≤ hi) : ∃ A c, v = .slice A l.length c ∧ l.length ≤ c ∧ c ≤ maxLen ∧ d.Sl (only w lo hi) A l.length l := by
  have hf : ∀ x, ((fun x => (f x).toList) x).length = d.sz := fun x => by simp [hf x]
  obtain ⟨hl, ⟨rfl, hn⟩ | ⟨g, cap, cur, rfl, hbg, hc, hle, hm, hs, ht⟩⟩ := h
  · have hl0 : l = [] := List.eq_nil_of_length_eq_zero hn
    subst hl0
    exact ⟨none, 0, rfl, Nat.le_refl _, by decide, Rd.Sl.none d _ none⟩
  · have hg : g < hi := Nat.lt_of_lt_of_le (Array.getElem?_eq_some_iff.1 hc).1 hh
    refine ⟨some ⟨g, 0, none⟩, cap, rfl, hle, hm, rfl, fun _ => ⟨g, 0, rfl, fun i hi' => ⟨(f l[i]).toList, hK _ (List.getElem_mem _) _, fun j u hu => ?_⟩⟩⟩
    have hj : j < d.sz := by
      have h1 := (List.getElem?_eq_some_iff.1 hu).1
      have h2 := hf l[i]
      simp only at h2
      omega
    have hlt : i * d.sz + j < l.length * d.sz := by
      have := Nat.mul_le_mul_right d.sz (show i + 1 ≤ l.length by omega)
      rw [Nat.add_mul] at this; omega
    rw [← flat_get hf l i j hi' hj, ← ht, List.getElem?_take_of_lt hlt] at hu
    rw [show 0 + i * d.sz + j = i * d.sz + j by omega]
    exact cell_only hc (Nat.le_trans hb hbg) hg (by simpa using hu)
theorem sl_sum {w : World} {A : Option Addr} {n : Nat} {xs : List Ent} (h : rdEn.Sl w A n xs) (x : Ent) (hx : x ∈ xs) : x.sum.length = 32 := by
  obtain ⟨i, hi, rfl⟩ := List.mem_iff_getElem.1 hx
  obtain ⟨b, o, cs, e, hk, hc⟩ := h.get i (by rw [← h.1]; exact hi)
  exact en_sum hk
theorem flat_one {α : Type} (f : α → Array Value) (l : List α) (k : Nat) (x : α) (h : l[k]? = some x) : (l.take (k + 1)).flatMap (fun x => (f x).toList) = (l.take k).flatMap (fun x => (f x).toList) ++ (f x).toList := by
  obtain ⟨hk, rfl⟩ := List.getElem?_eq_some_iff.1 h
  rw [List.take_succ_eq_append_getElem hk, List.flatMap_append]
  simp
set_option maxHeartbeats 1000000 in
set_option maxRecDepth 100000 in
theorem sameGrants_any (w : World) (A : Option Addr) (c : Nat) (xs : List Grant) (hS : rdGr.Sl w A xs.length xs) (hc : xs.length ≤ c) (hn : xs.length ≤ 1000000) (A2 : Option Addr) (c2 : Nat) (hS2 : rdGr.Sl w A2 xs.length xs) (hc2 : xs.length ≤ c2) :
    Calls Tryz.prog 129 #[.slice A xs.length c, .slice A2 xs.length c2] w fun e w' => e = .returned (.bool true) ∧ Ext w w' := by
  obtain ⟨n, hxn⟩ : ∃ n, xs.length = n := ⟨_, rfl⟩
  rw [hxn] at hS hn hc hS2 hc2 ⊢
  go_enter Tryz.func129, Tryz.ntmps129
  go_wp2_with fail
  go_loopw [5] (fun i wr => ∃ k : Nat, k ≤ n ∧ i = .int .i64 k ∧ Ext w wr) (fun i _ => n - (intOf i).toNat)
  case atStart => exact ⟨0, by omega, rfl, Ext.refl _⟩
  case round =>
    obtain ⟨k, hkn, rfl, hwr⟩ := hrel
    by_cases hlt : k < n
    · obtain ⟨b, o, rfl⟩ := el_addr hS k hlt
      obtain ⟨b2, o2, rfl⟩ := el_addr hS2 k hlt
      obtain ⟨x, hx⟩ : ∃ x, xs[k]? = some x := ⟨_, List.getElem?_eq_getElem (by omega)⟩
      have rx := fun (w' : World) (h : Ext wr w') => el_load gr_cells (hS.ext (hwr.trans h)) k x hx 29 _ Tryz.underlying29 rfl (by kernel_rfl)
      have ry := fun (w' : World) (h : Ext wr w') => el_load gr_cells (hS2.ext (hwr.trans h)) k x hx 29 _ Tryz.underlying29 rfl (by kernel_rfl)
      clear hx
      have re := fun (w' : World) => eql_gr w' x
      have hY : Ext wr wr := Ext.refl wr
      generalize grA x = C at rx ry re
      simp only [show rdGr.sz = 4 from rfl, show rdEn.sz = 39 from rfl] at rx ry
      clear hS hS2
      go_upto_region 6 with fail
      refine st_start (fun _ w' => Ext wr w') (fun _ => false) (by kernel_rfl) (by kernel_rfl) (by (repeat (first | assumption | exact Ext.refl _ | refine Ext.drew ?_ | refine Ext.alloc ?_ _ | refine Ext.drewN ?_ _ | refine Ext.trans ?_ (by assumption)))) ?_
      iterate 3 (first | (refine st_off (a' := ?_) rfl (by rfl) rfl ?_ ?_; rotate_left 1; (· simp only [Act.put, List.setIfInBounds_toArray, List.set_cons_zero, List.set_cons_succ]; rfl)) | (refine st_y (v := ?_) (a' := ?_) rfl (by rfl) rfl (fun k w' hw' => ?_) ?_ ?_; rotate_left 2; (· go_simp; with_reducible rfl); (· simp only [Act.put, List.setIfInBounds_toArray, List.set_cons_zero, List.set_cons_succ]; rfl)))
      refine st_y (v := ?_) (a' := ?_) rfl (by rfl) rfl (fun kk w' hw' => ?_) ?_ ?_
      rotate_left 2
      · (refine (run_op_load rfl ?_ (rx w' hw')).trans ?_; (· rfl); (· with_reducible rfl))
      · simp only [Act.put, List.setIfInBounds_toArray, List.set_cons_zero, List.set_cons_succ]; rfl
      iterate 3 (first | (refine st_off (a' := ?_) rfl (by rfl) rfl ?_ ?_; rotate_left 1; (· simp only [Act.put, List.setIfInBounds_toArray, List.set_cons_zero, List.set_cons_succ]; rfl)) | (refine st_y (v := ?_) (a' := ?_) rfl (by rfl) rfl (fun k w' hw' => ?_) ?_ ?_; rotate_left 2; (· go_simp; with_reducible rfl); (· simp only [Act.put, List.setIfInBounds_toArray, List.set_cons_zero, List.set_cons_succ]; rfl)))
      refine st_y (v := ?_) (a' := ?_) rfl (by rfl) rfl (fun kk w' hw' => ?_) ?_ ?_
      rotate_left 2
      · (refine (run_op_load rfl ?_ (ry w' hw')).trans ?_; (· rfl); (· with_reducible rfl))
      · simp only [Act.put, List.setIfInBounds_toArray, List.set_cons_zero, List.set_cons_succ]; rfl
      iterate 2 (first | (refine st_off (a' := ?_) rfl (by rfl) rfl ?_ ?_; rotate_left 1; (· simp only [Act.put, List.setIfInBounds_toArray, List.set_cons_zero, List.set_cons_succ]; rfl)) | (refine st_y (v := ?_) (a' := ?_) rfl (by rfl) rfl (fun k w' hw' => ?_) ?_ ?_; rotate_left 2; (· go_simp; with_reducible rfl); (· simp only [Act.put, List.setIfInBounds_toArray, List.set_cons_zero, List.set_cons_succ]; rfl)))
      refine st_end ?_
      intro w1 hY1
      go_wp2_with fail
      go_roundw
      case rel => exact ⟨k + 1, by omega, by go_num, hwr.trans hY1⟩
      case measure => simp [intOf]; omega
    · obtain rfl : k = n := by omega
      go_wp2_with fail
      go_ret
      exact ⟨rfl, hwr⟩
set_option maxHeartbeats 1000000 in
set_option maxRecDepth 100000 in
theorem sameEntries_any (w : World) (A : Option Addr) (c : Nat) (xs : List Ent) (hS : rdEn.Sl w A xs.length xs) (hc : xs.length ≤ c) (hn : xs.length ≤ 1000000) (A2 : Option Addr) (c2 : Nat) (hS2 : rdEn.Sl w A2 xs.length xs) (hc2 : xs.length ≤ c2) :
    Calls Tryz.prog 85 #[.slice A xs.length c, .slice A2 xs.length c2] w fun e w' => e = .returned (.bool true) ∧ Ext w w' := by
  obtain ⟨n, hxn⟩ : ∃ n, xs.length = n := ⟨_, rfl⟩
  rw [hxn] at hS hn hc hS2 hc2 ⊢
  go_enter Tryz.func85, Tryz.ntmps85
  go_wp2_with fail
  go_loopw [5] (fun i wr => ∃ k : Nat, k ≤ n ∧ i = .int .i64 k ∧ Ext w wr) (fun i _ => n - (intOf i).toNat)
  case atStart => exact ⟨0, by omega, rfl, Ext.refl _⟩
  case round =>
    obtain ⟨k, hkn, rfl, hwr⟩ := hrel
    by_cases hlt : k < n
    · obtain ⟨b, o, rfl⟩ := el_addr hS k hlt
      obtain ⟨b2, o2, rfl⟩ := el_addr hS2 k hlt
      obtain ⟨x, hx⟩ : ∃ x, xs[k]? = some x := ⟨_, List.getElem?_eq_getElem (by omega)⟩
      have rx := fun (w' : World) (h : Ext wr w') => el_load en_cells (hS.ext (hwr.trans h)) k x hx 72 _ Tryz.underlying72 rfl (by kernel_rfl)
      have ry := fun (w' : World) (h : Ext wr w') => el_load en_cells (hS2.ext (hwr.trans h)) k x hx 72 _ Tryz.underlying72 rfl (by kernel_rfl)
      clear hx
      have re := fun (w' : World) => eql_en w' x
      have hY : Ext wr wr := Ext.refl wr
      generalize enA x = C at rx ry re
      simp only [show rdGr.sz = 4 from rfl, show rdEn.sz = 39 from rfl] at rx ry
      clear hS hS2
      go_upto_region 6 with fail
      refine st_start (fun _ w' => Ext wr w') (fun _ => false) (by kernel_rfl) (by kernel_rfl) (by (repeat (first | assumption | exact Ext.refl _ | refine Ext.drew ?_ | refine Ext.alloc ?_ _ | refine Ext.drewN ?_ _ | refine Ext.trans ?_ (by assumption)))) ?_
      iterate 3 (first | (refine st_off (a' := ?_) rfl (by rfl) rfl ?_ ?_; rotate_left 1; (· simp only [Act.put, List.setIfInBounds_toArray, List.set_cons_zero, List.set_cons_succ]; rfl)) | (refine st_y (v := ?_) (a' := ?_) rfl (by rfl) rfl (fun k w' hw' => ?_) ?_ ?_; rotate_left 2; (· go_simp; with_reducible rfl); (· simp only [Act.put, List.setIfInBounds_toArray, List.set_cons_zero, List.set_cons_succ]; rfl)))
      refine st_y (v := ?_) (a' := ?_) rfl (by rfl) rfl (fun kk w' hw' => ?_) ?_ ?_
      rotate_left 2
      · (refine (run_op_load rfl ?_ (rx w' hw')).trans ?_; (· rfl); (· with_reducible rfl))
      · simp only [Act.put, List.setIfInBounds_toArray, List.set_cons_zero, List.set_cons_succ]; rfl
      iterate 3 (first | (refine st_off (a' := ?_) rfl (by rfl) rfl ?_ ?_; rotate_left 1; (· simp only [Act.put, List.setIfInBounds_toArray, List.set_cons_zero, List.set_cons_succ]; rfl)) | (refine st_y (v := ?_) (a' := ?_) rfl (by rfl) rfl (fun k w' hw' => ?_) ?_ ?_; rotate_left 2; (· go_simp; with_reducible rfl); (· simp only [Act.put, List.setIfInBounds_toArray, List.set_cons_zero, List.set_cons_succ]; rfl)))
      refine st_y (v := ?_) (a' := ?_) rfl (by rfl) rfl (fun kk w' hw' => ?_) ?_ ?_
      rotate_left 2
      · (refine (run_op_load rfl ?_ (ry w' hw')).trans ?_; (· rfl); (· with_reducible rfl))
      · simp only [Act.put, List.setIfInBounds_toArray, List.set_cons_zero, List.set_cons_succ]; rfl
      iterate 2 (first | (refine st_off (a' := ?_) rfl (by rfl) rfl ?_ ?_; rotate_left 1; (· simp only [Act.put, List.setIfInBounds_toArray, List.set_cons_zero, List.set_cons_succ]; rfl)) | (refine st_y (v := ?_) (a' := ?_) rfl (by rfl) rfl (fun k w' hw' => ?_) ?_ ?_; rotate_left 2; (· go_simp; with_reducible rfl); (· simp only [Act.put, List.setIfInBounds_toArray, List.set_cons_zero, List.set_cons_succ]; rfl)))
      refine st_end ?_
      intro w1 hY1
      go_wp2_with fail
      go_roundw
      case rel => exact ⟨k + 1, by omega, by go_num, hwr.trans hY1⟩
      case measure => simp [intOf]; omega
    · obtain rfl : k = n := by omega
      go_wp2_with fail
      go_ret
      exact ⟨rfl, hwr⟩
theorem elt_Grants : Elt Tryz.prog 22 29 4 40 := Elt.mk' (z := (.agg #[.int .i64 0, .string ⟨#[]⟩, .bool false, .int .i64 0])) Tryz.underlying22 (by kernel_rfl) rfl (by decide)
set_option maxHeartbeats 1000000 in
set_option maxRecDepth 100000 in
theorem copyGrants_own (w : World) (A : Option Addr) (c : Nat) (xs : List Grant) (hS : rdGr.Sl w A xs.length xs) (hc : xs.length ≤ c) (hn : xs.length ≤ 1000000) :
    Calls Tryz.prog 114 #[.slice A xs.length c] w fun e w' => ∃ v, e = .returned v ∧ w'.ownsRow w.heap.size 29 4 v xs.length (xs.flatMap fun x => (grA x).toList) ∧ Ext w w' := by
  obtain ⟨n, hxn⟩ : ∃ n, xs.length = n := ⟨_, rfl⟩
  rw [hxn] at hS hn hc ⊢
  go_enter Tryz.func114, Tryz.ntmps114
  go_wp2_with fail
  go_loopw [3, 4] (fun s3 i wr => ∃ k : Nat, k ≤ n ∧ i = .int .i64 k ∧ wr.ownsRow w.heap.size 29 4 s3 k ((xs.take k).flatMap fun x => (grA x).toList) ∧ Ext w wr) (fun _ i _ => n - (intOf i).toNat)
  case atStart => exact ⟨0, by omega, rfl, World.ownsRow_nil _ _ _ _, Ext.refl _⟩
  case round =>
    obtain ⟨k, hkn, rfl, hown, hwr⟩ := hrel
    by_cases hlt : k < n
    · obtain ⟨b, o, rfl⟩ := el_addr hS k hlt
      obtain ⟨x, hx⟩ : ∃ x, xs[k]? = some x := ⟨_, List.getElem?_eq_getElem (by omega)⟩
      have rx := el_load gr_cells (hS.ext hwr) k x hx 29 _ Tryz.underlying29 rfl (by kernel_rfl)
      have hfl := flat_one grA xs k x hx
      have h1 := one_gr x
      have hsz : (grA x).size = 4 := rfl
      have hfo := fold_all (Z := Value.cells (.agg #[.int .i64 0, .string ⟨#[]⟩, .bool false, .int .i64 0])) (n := 4) (by decide) rfl hsz
      simp only [Value.cells] at hfo
      generalize grA x = C at rx hfl h1 hfo hsz
      simp only [show rdGr.sz = 4 from rfl] at rx
      clear hS hx
      go_wp2_with (first | (refine wpList_load_by rfl rfl ?_ rx ?_; (· rfl)) | (at_builtin; refine wpList_append_cells (news := C.toList) rfl elt_Grants (.tmp 11) (.tmp 16) rfl (hown.alloc _) rfl rfl ?c0 ?c1 ?c2 ?c3 ?c4 ?_))
      case c0 => exact ⟨by simp [hsz], (fun h => by cases h), fun ad h j u hu => (by cases h; exact new_cells wr _ C j u hu)⟩
      case c1 => exact h1
      case c2 => unfold maxLen; omega
      case c3 => omega
      case c4 => have := hwr.le; simp; omega
      intro v' w1 hown' hgrow
      have hE := grown_ext (hwr.alloc _) (hown.alloc _) hgrow
      rw [← hfl] at hown'
      clear hown hgrow rx hfl h1 hfo
      go_wp2_with fail
      go_roundw
      case rel => exact ⟨k + 1, by omega, by go_num, hown', hE⟩
      case measure => simp [intOf]; omega
    · obtain rfl : k = n := by omega
      rw [← hxn, List.take_length] at hown
      rw [hxn] at hown
      go_wp2_with fail
      go_ret
      exact ⟨_, rfl, hown, hwr⟩
theorem copyGrants_any (w : World) (A : Option Addr) (c : Nat) (xs : List Grant) (hS : rdGr.Sl w A xs.length xs) (hc : xs.length ≤ c) (hn : xs.length ≤ 1000000) :
    Calls Tryz.prog 114 #[.slice A xs.length c] w fun e w' => ∃ A' c', e = .returned (.slice A' xs.length c') ∧ xs.length ≤ c' ∧ rdGr.Sl (only w' w.heap.size w'.heap.size) A' xs.length xs ∧ Ext w w' := by
  refine (copyGrants_own w A c xs hS hc hn).mono ?_
  rintro e w' ⟨v, rfl, hown, hE⟩
  obtain ⟨A', c', rfl, h1, -, h2⟩ := own_onlyM (d := rdGr) (f := grA) (fun _ => rfl) (lo := w.heap.size) (hi := w'.heap.size) (fun x _ w => gr_K w x) hown (Nat.le_refl _) (Nat.le_refl _)
  exact ⟨A', c', rfl, h1, h2, hE⟩
theorem elt_Entries : Elt Tryz.prog 44 72 39 104 := Elt.mk' (z := (.agg #[.int .i64 0, .int .i64 0, .int .i64 0, .int .i64 0, .int .i64 0, .string ⟨#[]⟩, .string ⟨#[]⟩, .int .u8 0, .int .u8 0, .int .u8 0, .int .u8 0, .int .u8 0, .int .u8 0, .int .u8 0, .int .u8 0, .int .u8 0, .int .u8 0, .int .u8 0, .int .u8 0, .int .u8 0, .int .u8 0, .int .u8 0, .int .u8 0, .int .u8 0, .int .u8 0, .int .u8 0, .int .u8 0, .int .u8 0, .int .u8 0, .int .u8 0, .int .u8 0, .int .u8 0, .int .u8 0, .int .u8 0, .int .u8 0, .int .u8 0, .int .u8 0, .int .u8 0, .int .u8 0])) Tryz.underlying44 (by kernel_rfl) rfl (by decide)
set_option maxHeartbeats 1000000 in
set_option maxRecDepth 100000 in
theorem copyEntries_own (w : World) (A : Option Addr) (c : Nat) (xs : List Ent) (hS : rdEn.Sl w A xs.length xs) (hc : xs.length ≤ c) (hn : xs.length ≤ 1000000) :
    Calls Tryz.prog 72 #[.slice A xs.length c] w fun e w' => ∃ v, e = .returned v ∧ w'.ownsRow w.heap.size 72 39 v xs.length (xs.flatMap fun x => (enA x).toList) ∧ Ext w w' := by
  obtain ⟨n, hxn⟩ : ∃ n, xs.length = n := ⟨_, rfl⟩
  rw [hxn] at hS hn hc ⊢
  go_enter Tryz.func72, Tryz.ntmps72
  go_wp2_with fail
  go_loopw [3, 4] (fun s3 i wr => ∃ k : Nat, k ≤ n ∧ i = .int .i64 k ∧ wr.ownsRow w.heap.size 72 39 s3 k ((xs.take k).flatMap fun x => (enA x).toList) ∧ Ext w wr) (fun _ i _ => n - (intOf i).toNat)
  case atStart => exact ⟨0, by omega, rfl, World.ownsRow_nil _ _ _ _, Ext.refl _⟩
  case round =>
    obtain ⟨k, hkn, rfl, hown, hwr⟩ := hrel
    by_cases hlt : k < n
    · obtain ⟨b, o, rfl⟩ := el_addr hS k hlt
      obtain ⟨x, hx⟩ : ∃ x, xs[k]? = some x := ⟨_, List.getElem?_eq_getElem (by omega)⟩
      have rx := el_load en_cells (hS.ext hwr) k x hx 72 _ Tryz.underlying72 rfl (by kernel_rfl)
      have hfl := flat_one enA xs k x hx
      have h1 := one_en x
      have hsz : (enA x).size = 39 := rfl
      have hfo := fold_all (Z := Value.cells (.agg #[.int .i64 0, .int .i64 0, .int .i64 0, .int .i64 0, .int .i64 0, .string ⟨#[]⟩, .string ⟨#[]⟩, .int .u8 0, .int .u8 0, .int .u8 0, .int .u8 0, .int .u8 0, .int .u8 0, .int .u8 0, .int .u8 0, .int .u8 0, .int .u8 0, .int .u8 0, .int .u8 0, .int .u8 0, .int .u8 0, .int .u8 0, .int .u8 0, .int .u8 0, .int .u8 0, .int .u8 0, .int .u8 0, .int .u8 0, .int .u8 0, .int .u8 0, .int .u8 0, .int .u8 0, .int .u8 0, .int .u8 0, .int .u8 0, .int .u8 0, .int .u8 0, .int .u8 0, .int .u8 0])) (n := 39) (by decide) rfl hsz
      simp only [Value.cells] at hfo
      generalize enA x = C at rx hfl h1 hfo hsz
      simp only [show rdEn.sz = 39 from rfl] at rx
      clear hS hx
      go_wp2_with (first | (refine wpList_load_by rfl rfl ?_ rx ?_; (· rfl)) | (at_builtin; refine wpList_append_cells (news := C.toList) rfl elt_Entries (.tmp 11) (.tmp 16) rfl (hown.alloc _) rfl rfl ?c0 ?c1 ?c2 ?c3 ?c4 ?_))
      case c0 => exact ⟨by simp [hsz], (fun h => by cases h), fun ad h j u hu => (by cases h; exact new_cells wr _ C j u hu)⟩
      case c1 => exact h1
      case c2 => unfold maxLen; omega
      case c3 => omega
      case c4 => have := hwr.le; simp; omega
      intro v' w1 hown' hgrow
      have hE := grown_ext (hwr.alloc _) (hown.alloc _) hgrow
      rw [← hfl] at hown'
      clear hown hgrow rx hfl h1 hfo
      go_wp2_with fail
      go_roundw
      case rel => exact ⟨k + 1, by omega, by go_num, hown', hE⟩
      case measure => simp [intOf]; omega
    · obtain rfl : k = n := by omega
      rw [← hxn, List.take_length] at hown
      rw [hxn] at hown
      go_wp2_with fail
      go_ret
      exact ⟨_, rfl, hown, hwr⟩
theorem copyEntries_any (w : World) (A : Option Addr) (c : Nat) (xs : List Ent) (hS : rdEn.Sl w A xs.length xs) (hc : xs.length ≤ c) (hn : xs.length ≤ 1000000) :
    Calls Tryz.prog 72 #[.slice A xs.length c] w fun e w' => ∃ A' c', e = .returned (.slice A' xs.length c') ∧ xs.length ≤ c' ∧ rdEn.Sl (only w' w.heap.size w'.heap.size) A' xs.length xs ∧ Ext w w' := by
  refine (copyEntries_own w A c xs hS hc hn).mono ?_
  rintro e w' ⟨v, rfl, hown, hE⟩
  obtain ⟨A', c', rfl, h1, -, h2⟩ := own_onlyM (d := rdEn) (f := enA) (fun _ => rfl) (lo := w.heap.size) (hi := w'.heap.size) (fun x hx w => en_K w x (sl_sum hS x hx)) hown (Nat.le_refl _) (Nat.le_refl _)
  exact ⟨A', c', rfl, h1, h2, hE⟩
end Go.Proofs.YtgfhbachgniipaaGreatDoor

/-! Lists of grants and of entries: written over. -/
namespace Go.Proofs.YtgfhbachgniipaaGreatDoor
set_option linter.unusedVariables false
set_option linter.unusedSimpArgs false
open Go.RowKit
/-- n rows of sz cells from A on lie in the blocks from lo on, below hi, and may be written. -/
def RowsAt (w : World) (lo hi : Nat) (A : Option Addr) (n sz : Nat) : Prop := ∀ k, k < n → ∃ b o, A = some ⟨b, o, none⟩ ∧ ∀ j, j < sz → ∃ v, (only w lo hi).cell? ⟨b, o + k * sz + j, none⟩ = some v
theorem rowsAt_of {α : Type} {d : Rd α} {w : World} {lo hi : Nat} {A : Option Addr} {n : Nat} {xs : List α} (h : d.Sl (only w lo hi) A n xs) : RowsAt w lo hi A n d.sz := fun k hk => by
  obtain ⟨b, o, cs, e, hK, hc⟩ := h.get k hk
  refine ⟨b, o, e, fun j hj => ?_⟩
  have hl := d.len hK
  exact ⟨_, hc j _ (List.getElem?_eq_getElem (by omega))⟩
theorem There.setCells {lo hi : Nat} {w0 : World} (b : Nat) : ∀ (vs : List Value) (o : Nat) (w : World), There lo hi w0 w → There lo hi w0 (w.setCells b o vs)
  | [], _, _, h => h
  | v :: vs, o, w, h => by
    rw [World.setCells]
    exact There.setCells b vs (o + 1) _ (h.trans (There.set _ _))
def markG (k : Nat) : Grant := ⟨-9, ⟨#[]⟩, false, 900 + k⟩
def markE (k : Nat) : Ent := ⟨-9 - k, 0, 0, 0, 0, ⟨#[]⟩, ⟨#[]⟩, zMac⟩
set_option maxHeartbeats 1000000 in
set_option maxRecDepth 100000 in
theorem markGrants_any (k : Nat) (hk : k ≤ 8589934592) (w : World) : Calls Tryz.prog 142 #[.int .i64 k] w fun e w' => e = .returned (.agg (grA (markG k))) ∧ Ext w w' := by
  have hw : IntKind.i64.wrap (900 + (k : Int)) = 900 + (k : Int) := by rw [IntKind.wrap_i64]; omega
  have hw2 : wrap64 (900 + (k : Int)) = 900 + (k : Int) := IntWalk.wrap64_in _ ⟨by omega, by omega⟩
  go_enter Tryz.func142, Tryz.ntmps142
  go_wp2_with fail
  exact bodyPost_ret (v := .agg #[.int .i64 (-9), .string ⟨#[]⟩, .bool false, .int .i64 (900 + k)]) (by simp [results, Tryz.results142, go_sem]) rfl ⟨rfl, by (repeat (first | assumption | exact Ext.refl _ | refine Ext.drew ?_ | refine Ext.alloc ?_ _ | refine Ext.drewN ?_ _ | refine Ext.trans ?_ (by assumption)))⟩
set_option maxHeartbeats 1000000 in
set_option maxRecDepth 100000 in
theorem markEntries_any (k : Nat) (hk : k ≤ 8589934592) (w : World) : Calls Tryz.prog 145 #[.int .i64 k] w fun e w' => e = .returned (.agg (enA (markE k))) ∧ Ext w w' := by
  have hw : IntKind.i64.wrap (-9 - (k : Int)) = -9 - (k : Int) := by rw [IntKind.wrap_i64]; omega
  have hw2 : wrap64 (-9 - (k : Int)) = -9 - (k : Int) := IntWalk.wrap64_in _ ⟨by omega, by omega⟩
  obtain ⟨W, hW, hE, -⟩ := box1 w #[.int .i64 0, .int .i64 0, .int .i64 0, .int .i64 0, .int .i64 0, .string ⟨#[]⟩, .string ⟨#[]⟩, .int .u8 0, .int .u8 0, .int .u8 0, .int .u8 0, .int .u8 0, .int .u8 0, .int .u8 0, .int .u8 0, .int .u8 0, .int .u8 0, .int .u8 0, .int .u8 0, .int .u8 0, .int .u8 0, .int .u8 0, .int .u8 0, .int .u8 0, .int .u8 0, .int .u8 0, .int .u8 0, .int .u8 0, .int .u8 0, .int .u8 0, .int .u8 0, .int .u8 0, .int .u8 0, .int .u8 0, .int .u8 0, .int .u8 0, .int .u8 0, .int .u8 0, .int .u8 0] 72
  have B : Blk W w.heap.size 72 #[.int .i64 0, .int .i64 0, .int .i64 0, .int .i64 0, .int .i64 0, .string ⟨#[]⟩, .string ⟨#[]⟩, .int .u8 0, .int .u8 0, .int .u8 0, .int .u8 0, .int .u8 0, .int .u8 0, .int .u8 0, .int .u8 0, .int .u8 0, .int .u8 0, .int .u8 0, .int .u8 0, .int .u8 0, .int .u8 0, .int .u8 0, .int .u8 0, .int .u8 0, .int .u8 0, .int .u8 0, .int .u8 0, .int .u8 0, .int .u8 0, .int .u8 0, .int .u8 0, .int .u8 0, .int .u8 0, .int .u8 0, .int .u8 0, .int .u8 0, .int .u8 0, .int .u8 0, .int .u8 0] := by rw [hW]; exact Blk.new _ _ _
  obtain ⟨W2, hr, B2, hX⟩ := store_part B 0 (enA (markE k)) [] [.int .i64 0, .int .i64 0, .int .i64 0, .int .i64 0, .int .i64 0, .string ⟨#[]⟩, .string ⟨#[]⟩, .int .u8 0, .int .u8 0, .int .u8 0, .int .u8 0, .int .u8 0, .int .u8 0, .int .u8 0, .int .u8 0, .int .u8 0, .int .u8 0, .int .u8 0, .int .u8 0, .int .u8 0, .int .u8 0, .int .u8 0, .int .u8 0, .int .u8 0, .int .u8 0, .int .u8 0, .int .u8 0, .int .u8 0, .int .u8 0, .int .u8 0, .int .u8 0, .int .u8 0, .int .u8 0, .int .u8 0, .int .u8 0, .int .u8 0, .int .u8 0, .int .u8 0, .int .u8 0] [] rfl rfl rfl 72 (by kernel_rfl) (one_enA _)
  have B2 : Blk W2 w.heap.size 72 (enA (markE k)) := by simpa using B2
  go_enter Tryz.func145, Tryz.ntmps145
  go_upto_region 1 with fail
  rw [← hW]
  clear hW B
  go_wp2_with (refine wpList_store_by rfl rfl ?_ ?_ hr ?_; (· rfl); (· rfl))
  exact bodyPost_ret (v := .agg (enA (markE k))) (results_cell_row (P := Tryz.prog) (fn := Tryz.f145) rfl _ W2 w.heap.size _ _ _ _ rfl B2 Tryz.underlying72 rfl (by kernel_rfl)) rfl ⟨rfl, Exc.ext hE hX (Nat.le_refl _)⟩
set_option maxHeartbeats 1000000 in
set_option maxRecDepth 100000 in
theorem spoilGrants_any (w : World) (lo hi : Nat) (hh : hi ≤ w.heap.size) (A : Option Addr) (n c : Nat) (hS : RowsAt w lo hi A n 4) (hc : n ≤ c) (hn : n ≤ 4294967296) :
    Calls Tryz.prog 109 #[.slice A n c] w fun e w' => e = .returned (.tuple #[]) ∧ Exc lo hi w w' := by
  go_enter Tryz.func109, Tryz.ntmps109
  go_wp2_with fail
  go_loopw [2] (fun i wr => ∃ k : Nat, k ≤ n ∧ i = .int .i64 k ∧ Exc lo hi w wr ∧ There lo hi w wr) (fun i _ => n - (intOf i).toNat)
  case atStart => exact ⟨0, by omega, rfl, Exc.refl _ _ _, There.refl _ _ _⟩
  case round =>
    obtain ⟨k, hkn, rfl, hwr, hT⟩ := hrel
    by_cases hlt : k < n
    · obtain ⟨b, o, rfl, x0⟩ := hS k hlt
      have hhr : hi ≤ wr.heap.size := Nat.le_trans hh hwr.size
      have hst : ∀ w2, Ext wr w2 → ∀ C : Array Value, C.size = 4 → C.all (·.oneCell') = true → (Instr.storeAt 29 (.pointer (some ⟨b, o + k * 4, none⟩)) (.agg C)).run Tryz.prog w2 = .ok () (w2.setCells b (o + k * 4) C.toList) := fun w2 hE C hC h1 => by
        refine run_storeAt_mid w2 b (o + k * 4) 29 C (fun j hj => ?_) (by rw [hC]; kernel_rfl) h1
        obtain ⟨v, hv⟩ := x0 j (by omega)
        obtain ⟨v2, hv2⟩ := (hT.trans (There.ext hE hhr)) _ _ hv
        obtain ⟨_, _, hy, hf2, -⟩ := only_cell hv2
        exact ⟨by rw [hy]; rfl, hf2⟩
      obtain ⟨v0, hv0⟩ := x0 0 (by decide)
      obtain ⟨hl1, hl2, -⟩ := only_cell hv0
      have hl1 : lo ≤ b := hl1
      have hl2 : b < hi := hl2
      have hsz : (grA (markG (k + 7))).size = 4 := rfl
      have h1 := all_oneCell_toArray (one_gr (markG (k + 7)))
      simp only [Array.toArray_toList] at h1
      have hmk := fun (w' : World) => markGrants_any (k + 7) (by omega) w'
      rw [show (((k + 7 : Nat)) : Int) = (k : Int) + 7 by omega] at hmk
      generalize grA (markG (k + 7)) = C at hsz h1 hmk
      clear hS x0
      go_wp2_with (first | (go_at_call 142; (with_reducible refine (hmk _).mono ?_); rintro e w2 ⟨rfl, hE⟩) | (refine wpList_store_by rfl rfl ?_ ?_ (hst _ hE C hsz h1) ?_; (· rfl); (· rfl)))
      go_roundw
      case rel => exact ⟨k + 1, by omega, by go_num, (hwr.trans (Ext.exc hE)).trans ((setCells_exc _ _ _).wide hl1 hl2), (hT.trans (There.ext hE hhr)).trans (There.setCells _ _ _ _ (There.refl _ _ _))⟩
      case measure => simp [intOf]; omega
    · obtain rfl : k = n := by omega
      go_wp2_with fail
      go_end0
      exact ⟨rfl, hwr⟩
set_option maxHeartbeats 1000000 in
set_option maxRecDepth 100000 in
theorem spoilEntries_any (w : World) (lo hi : Nat) (hh : hi ≤ w.heap.size) (A : Option Addr) (n c : Nat) (hS : RowsAt w lo hi A n 39) (hc : n ≤ c) (hn : n ≤ 4294967296) :
    Calls Tryz.prog 112 #[.slice A n c] w fun e w' => e = .returned (.tuple #[]) ∧ Exc lo hi w w' := by
  go_enter Tryz.func112, Tryz.ntmps112
  go_wp2_with fail
  go_loopw [2] (fun i wr => ∃ k : Nat, k ≤ n ∧ i = .int .i64 k ∧ Exc lo hi w wr ∧ There lo hi w wr) (fun i _ => n - (intOf i).toNat)
  case atStart => exact ⟨0, by omega, rfl, Exc.refl _ _ _, There.refl _ _ _⟩
  case round =>
    obtain ⟨k, hkn, rfl, hwr, hT⟩ := hrel
    by_cases hlt : k < n
    · obtain ⟨b, o, rfl, x0⟩ := hS k hlt
      have hhr : hi ≤ wr.heap.size := Nat.le_trans hh hwr.size
      have hst : ∀ w2, Ext wr w2 → ∀ C : Array Value, C.size = 39 → C.all (·.oneCell') = true → (Instr.storeAt 72 (.pointer (some ⟨b, o + k * 39, none⟩)) (.agg C)).run Tryz.prog w2 = .ok () (w2.setCells b (o + k * 39) C.toList) := fun w2 hE C hC h1 => by
        refine run_storeAt_mid w2 b (o + k * 39) 72 C (fun j hj => ?_) (by rw [hC]; kernel_rfl) h1
        obtain ⟨v, hv⟩ := x0 j (by omega)
        obtain ⟨v2, hv2⟩ := (hT.trans (There.ext hE hhr)) _ _ hv
        obtain ⟨_, _, hy, hf2, -⟩ := only_cell hv2
        exact ⟨by rw [hy]; rfl, hf2⟩
      obtain ⟨v0, hv0⟩ := x0 0 (by decide)
      obtain ⟨hl1, hl2, -⟩ := only_cell hv0
      have hl1 : lo ≤ b := hl1
      have hl2 : b < hi := hl2
      have hsz : (enA (markE (k + 7))).size = 39 := rfl
      have h1 := all_oneCell_toArray (one_en (markE (k + 7)))
      simp only [Array.toArray_toList] at h1
      have hmk := fun (w' : World) => markEntries_any (k + 7) (by omega) w'
      rw [show (((k + 7 : Nat)) : Int) = (k : Int) + 7 by omega] at hmk
      generalize enA (markE (k + 7)) = C at hsz h1 hmk
      clear hS x0
      go_wp2_with (first | (go_at_call 145; (with_reducible refine (hmk _).mono ?_); rintro e w2 ⟨rfl, hE⟩) | (refine wpList_store_by rfl rfl ?_ ?_ (hst _ hE C hsz h1) ?_; (· rfl); (· rfl)))
      go_roundw
      case rel => exact ⟨k + 1, by omega, by go_num, (hwr.trans (Ext.exc hE)).trans ((setCells_exc _ _ _).wide hl1 hl2), (hT.trans (There.ext hE hhr)).trans (There.setCells _ _ _ _ (There.refl _ _ _))⟩
      case measure => simp [intOf]; omega
    · obtain rfl : k = n := by omega
      go_wp2_with fail
      go_end0
      exact ⟨rfl, hwr⟩
end Go.Proofs.YtgfhbachgniipaaGreatDoor

/-! Tokens: held against one another, copied. -/
namespace Go.Proofs.YtgfhbachgniipaaGreatDoor
set_option linter.unusedVariables false
set_option linter.unusedSimpArgs false
open Go.RowKit
/-- What a slice of grants, of rows of bytes reads ars. -/
def GsV (w : World) (l : List Grant) (a : Value) : Prop := ∃ A c, a = .slice A l.length c ∧ l.length ≤ c ∧ rdGr.Sl w A l.length l
def BsV (w : World) (l : List (List UInt8)) (a : Value) : Prop := ∃ A c, a = .slice A l.length c ∧ l.length ≤ c ∧ rdB.Sl w A l.length l
theorem GsV.mono {w w' : World} {l : List Grant} {a : Value} (h : GsV w l a) (k : Cle w w') : GsV w' l a := by
  obtain ⟨A, c, e, h1, h2⟩ := h
  exact ⟨A, c, e, h1, h2.mono k⟩
theorem BsV.mono {w w' : World} {l : List (List UInt8)} {a : Value} (h : BsV w l a) (k : Cle w w') : BsV w' l a := by
  obtain ⟨A, c, e, h1, h2⟩ := h
  exact ⟨A, c, e, h1, h2.mono k⟩
theorem GsV.ext {w w' : World} {l : List Grant} {a : Value} (h : GsV w l a) (k : Ext w w') : GsV w' l a := h.mono k.cle
theorem BsV.ext {w w' : World} {l : List (List UInt8)} {a : Value} (h : BsV w l a) (k : Ext w w') : BsV w' l a := h.mono k.cle
theorem GsV.nil (w : World) : GsV w [] (.slice none 0 0) := ⟨none, 0, rfl, Nat.le_refl _, Rd.Sl.none _ _ none⟩
theorem BsV.nil (w : World) : BsV w [] (.slice none 0 0) := ⟨none, 0, rfl, Nat.le_refl _, Rd.Sl.none _ _ none⟩
theorem oc_int (k : IntKind) (x : Int) : (Value.int k x).oneCell' = true := rfl
theorem oc_str (x : ByteArray) : (Value.string x).oneCell' = true := rfl
theorem oc_bool (x : Bool) : (Value.bool x).oneCell' = true := rfl
theorem one_tok (t : Tok) (a : Value) (h : a.oneCell' = true) : (tokA t a).all (·.oneCell') = true := by simp [tokA, mb, oc_int, oc_str, h]
theorem fin_own {w W w1 w9 : World} (hE : Ext w W) (hE1 : Ext W w1) (hX : Exc w.heap.size W.heap.size w1 w9) : Ext w w9 ∧ Cle (only w1 W.heap.size w1.heap.size) (only w9 w.heap.size w9.heap.size) := by
  refine ⟨Exc.ext (hE.trans hE1) hX (Nat.le_refl _), ?_⟩
  have e : only w9 W.heap.size w1.heap.size = only w1 W.heap.size w1.heap.size := hX.only (Nat.le_refl _) (.inr (Nat.le_refl _))
  rw [← e]
  exact only_wide hE.le hX.size
theorem Exc.blk {lo hi : Nat} {w w' : World} {g : Nat} {t : TypeId} {cs : Array Value} (h : Exc lo hi w w') (hb : Blk w g t cs) (hg : g < lo ∨ hi ≤ g) : Blk w' g t cs := (h.block g hb.lt hg).trans hb
/-- w with the blocks from l on, below h, blanked. -/
def gap (w : World) (l h : Nat) : World := { w with heap := Array.ofFn (n := w.heap.size) fun i => if l ≤ i.1 ∧ i.1 < h then .cells #[] 0 (0, 0) else w.heap[i.1] }
theorem gap_heap (w : World) (l h b : Nat) : (gap w l h).heap[b]? = if b < w.heap.size then some (if l ≤ b ∧ b < h then .cells #[] 0 (0, 0) else w.heap[b]?.getD (.cells #[] 0 (0, 0))) else none := by
  unfold gap
  simp only [Array.getElem?_ofFn]
  by_cases hb : b < w.heap.size
  · simp [hb]
  · simp [hb]
theorem gap_keep {w w' : World} {l h lo hi : Nat} (k : Exc l h w w') (hh : hi ≤ w.heap.size) : only (gap w' l h) lo hi = only (gap w l h) lo hi :=
  only_keep fun b h1 h2 => by
    have hs := k.size
    rw [gap_heap, gap_heap, if_pos (show b < w'.heap.size by omega), if_pos (show b < w.heap.size by omega)]
    by_cases hg : l ≤ b ∧ b < h
    · rw [if_pos hg, if_pos hg]
    · rw [if_neg hg, if_neg hg, k.block b (by omega) (by omega)]
theorem gap_cle (w : World) (l h lo hi : Nat) (hh : hi ≤ w.heap.size) : Cle (only (gap w l h) lo hi) (only w lo hi) := fun p v hv => by
  obtain ⟨a, b, hc, hf, cs, t, hb⟩ := only_cell hv
  have hs := only_spot hv
  obtain ⟨pb, po, ps⟩ := p
  obtain rfl : ps = none := hs
  have a : lo ≤ pb := a
  have b : pb < hi := b
  have hb0 : (gap w l h).heap[pb]? = some (.cells cs t (0, 0)) := hb
  have hc1 : cs[po]? = some v := by
    unfold World.cell? at hc
    rw [hb] at hc
    simpa using hc
  rw [gap_heap, if_pos (show pb < w.heap.size by omega)] at hb0
  by_cases hg : l ≤ pb ∧ pb < h
  · rw [if_pos hg] at hb0
    simp only [Option.some.injEq, Obj.cells.injEq] at hb0
    rw [← hb0.1] at hc1
    simp at hc1
  · rw [if_neg hg] at hb0
    have hlt : pb < w.heap.size := by omega
    rw [Array.getElem?_eq_getElem hlt] at hb0
    refine cell_only (w := w) (cs := cs) (t := t) ?_ a b hc1
    rw [Array.getElem?_eq_getElem hlt]
    simpa using hb0
theorem gap_off (w : World) (l h lo hi : Nat) (hh : hi ≤ w.heap.size) (hd : hi ≤ l ∨ h ≤ lo) : only (gap w l h) lo hi = only w lo hi :=
  only_keep fun b h1 h2 => by
    rw [gap_heap, if_pos (show b < w.heap.size by omega), if_neg (show ¬ (l ≤ b ∧ b < h) by omega), Array.getElem?_eq_getElem (by omega)]
    rfl
theorem kind_bytes {w w' : World} {lo hi : Nat} {A : Option Addr} {n : Nat} {l : List UInt8} (k : Kind w w') (h : Rd.u8.Sl (only w lo hi) A n l) : ∃ y : List UInt8, y.length = n ∧ Rd.u8.Sl (only w' lo hi) A n y := by
  rcases Nat.eq_zero_or_pos n with rfl | h0
  · exact ⟨[], rfl, rfl, fun h => absurd h (Nat.lt_irrefl 0)⟩
  · obtain ⟨b, o, e, hc⟩ := h.2 h0
    have hy : ∀ i : Fin n, ∃ y : UInt8, (only w' lo hi).cell? ⟨b, o + i.1, none⟩ = some (.int .u8 y.toNat) := fun i => by
      obtain ⟨cs, hK, hcell⟩ := hc i.1 (by rw [h.1]; exact i.2)
      have h1 := hcell 0 _ (by rw [show cs = [_] from hK]; rfl)
      obtain ⟨v', hv', ht⟩ := k.only h1
      rcases ht with rfl | ⟨_, y, _, rfl⟩
      · exact ⟨_, by simpa [Rd.u8] using hv'⟩
      · exact ⟨y, by simpa [Rd.u8] using hv'⟩
    obtain ⟨f, hf⟩ := Classical.axiomOfChoice hy
    refine ⟨List.ofFn f, by simp, by simp, fun _ => ⟨b, o, e, fun i hi => ⟨[_], rfl, fun j u hu => ?_⟩⟩⟩
    obtain ⟨rfl, rfl⟩ : j = 0 ∧ _ = u := by
      cases j with
      | zero => simp at hu; exact ⟨rfl, hu⟩
      | succ j => simp at hu
    have := hf ⟨i, by simpa using hi⟩
    simpa [Rd.u8] using this
set_option maxHeartbeats 1000000 in
set_option maxRecDepth 100000 in
theorem sameToken_any (w : World) (t : Tok) (a a' : Value) (h : GsV w t.gs a) (h' : GsV w t.gs a') (hn : t.gs.length ≤ 1000000) :
    Calls Tryz.prog 69 #[.agg (tokA t a), .agg (tokA t a')] w fun e w' => e = .returned (.bool true) ∧ Ext w w' := by
  obtain ⟨A, c, rfl, hc, hS⟩ := h
  obtain ⟨A', c', rfl, hc', hS'⟩ := h'
  obtain ⟨n, hln⟩ : ∃ n, t.gs.length = n := ⟨_, rfl⟩
  have hsg := fun (w' : World) (h : Ext w w') => sameGrants_any w' A c t.gs (hS.ext h) hc hn A' c' (hS'.ext h) hc'
  rw [hln] at hsg ⊢
  obtain ⟨W, hW, hE, bx, cx⟩ := box2 w (tokA t (.slice A n c)) (tokA t (.slice A' n c')) 26 26
  have B1 : Blk W w.heap.size 26 (tokA t (.slice A n c)) := by rw [hW]; exact (Blk.new _ _ _).alloc _
  have B2 : Blk W (w.heap.size + 1) 26 (tokA t (.slice A' n c')) := by rw [hW]; have := Blk.new (w.alloc (.cells (tokA t (.slice A n c)) 26)) 26 (tokA t (.slice A' n c')); simpa using this
  have x0 : W.cell? ⟨w.heap.size, 0, none⟩ = some (.string t.ten) := bx 0 _ rfl
  have y0 : W.cell? ⟨w.heap.size + 1, 0, none⟩ = some (.string t.ten) := cx 0 _ rfl
  have x1 : W.cell? ⟨w.heap.size, 1, none⟩ = some (.int .i64 t.id) := bx 1 _ rfl
  have y1 : W.cell? ⟨w.heap.size + 1, 1, none⟩ = some (.int .i64 t.id) := cx 1 _ rfl
  have x2 : W.cell? ⟨w.heap.size, 2, none⟩ = some (.slice A n c) := bx 2 _ rfl
  have y2 : W.cell? ⟨w.heap.size + 1, 2, none⟩ = some (.slice A' n c') := cx 2 _ rfl
  have l1 := load_part B1 3 (macA t.mac) [.string t.ten, .int .i64 t.id, .slice A n c] [] rfl rfl 24 _ Tryz.underlying24 rfl (by kernel_rfl)
  have l2 := load_part B2 3 (macA t.mac) [.string t.ten, .int .i64 t.id, .slice A' n c'] [] rfl rfl 24 _ Tryz.underlying24 rfl (by kernel_rfl)
  have em := fun (w' : World) => eql_mac w' t.mac
  generalize macA t.mac = M at l1 l2 em
  generalize tokA t (.slice A n c) = T1 at *
  generalize tokA t (.slice A' n c') = T2 at *
  clear bx cx hS hS' B1 B2
  go_enter Tryz.func69, Tryz.ntmps69
  go_upto_region 1 with fail
  rw [← hW]
  clear hW
  refine wp_region_lit ?_
  iterate 14 (first | (refine pl_off (a' := ?_) rfl (by rfl) ?_ ?_; rotate_left 1; (· simp only [Act.put, List.setIfInBounds_toArray, List.set_cons_zero, List.set_cons_succ]; rfl)) | (refine pl_y (v := ?_) (a' := ?_) rfl (by rfl) ?_ ?_ ?_; rotate_left 2; (· go_simp; with_reducible rfl); (· simp only [Act.put, List.setIfInBounds_toArray, List.set_cons_zero, List.set_cons_succ]; rfl)))
  refine pl_y (v := ?_) (a' := ?_) rfl (by rfl) ?_ ?_ ?_
  rotate_left 2
  · (refine (run_op_load rfl ?_ (l1)).trans ?_; (· rfl); (· with_reducible rfl))
  · simp only [Act.put, List.setIfInBounds_toArray, List.set_cons_zero, List.set_cons_succ]; rfl
  iterate 1 (first | (refine pl_off (a' := ?_) rfl (by rfl) ?_ ?_; rotate_left 1; (· simp only [Act.put, List.setIfInBounds_toArray, List.set_cons_zero, List.set_cons_succ]; rfl)) | (refine pl_y (v := ?_) (a' := ?_) rfl (by rfl) ?_ ?_ ?_; rotate_left 2; (· go_simp; with_reducible rfl); (· simp only [Act.put, List.setIfInBounds_toArray, List.set_cons_zero, List.set_cons_succ]; rfl)))
  refine pl_y (v := ?_) (a' := ?_) rfl (by rfl) ?_ ?_ ?_
  rotate_left 2
  · (refine (run_op_load rfl ?_ (l2)).trans ?_; (· rfl); (· with_reducible rfl))
  · simp only [Act.put, List.setIfInBounds_toArray, List.set_cons_zero, List.set_cons_succ]; rfl
  iterate 7 (first | (refine pl_off (a' := ?_) rfl (by rfl) ?_ ?_; rotate_left 1; (· simp only [Act.put, List.setIfInBounds_toArray, List.set_cons_zero, List.set_cons_succ]; rfl)) | (refine pl_y (v := ?_) (a' := ?_) rfl (by rfl) ?_ ?_ ?_; rotate_left 2; (· go_simp; with_reducible rfl); (· simp only [Act.put, List.setIfInBounds_toArray, List.set_cons_zero, List.set_cons_succ]; rfl)))
  refine pl_call (args := ?_) Tryz.func129 (by kernel_rfl) rfl (by rfl) rfl rfl ?_ ?_
  rotate_left 1
  · go_simp; with_reducible rfl
  (with_reducible refine (hsg W hE).mono ?_)
  rintro e w1 ⟨rfl, hY⟩
  refine ⟨_, _, rfl, (by simp only [Act.put, List.setIfInBounds_toArray, List.set_cons_zero, List.set_cons_succ]; rfl), ?_⟩
  iterate 2 (first | (refine pl_off (a' := ?_) rfl (by rfl) ?_ ?_; rotate_left 1; (· simp only [Act.put, List.setIfInBounds_toArray, List.set_cons_zero, List.set_cons_succ]; rfl)) | (refine pl_y (v := ?_) (a' := ?_) rfl (by rfl) ?_ ?_ ?_; rotate_left 2; (· go_simp; with_reducible rfl); (· simp only [Act.put, List.setIfInBounds_toArray, List.set_cons_zero, List.set_cons_succ]; rfl)))
  refine wpList_nil ?_
  go_wp2_with fail
  go_ret
  exact ⟨rfl, hE.trans hY⟩
set_option maxHeartbeats 1000000 in
set_option maxRecDepth 100000 in
theorem copyToken_any (w : World) (t : Tok) (a : Value) (h : GsV w t.gs a) (hn : t.gs.length ≤ 1000000) :
    Calls Tryz.prog 43 #[.agg (tokA t a)] w fun e w' => ∃ a', e = .returned (.agg (tokA t a')) ∧ GsV (only w' w.heap.size w'.heap.size) t.gs a' ∧ Ext w w' := by
  obtain ⟨A, c, rfl, hc, hS⟩ := h
  obtain ⟨W, hW, hE, bx, -⟩ := box2 w (tokA t (.slice A t.gs.length c)) #[.string ⟨#[]⟩, .int .i64 0, .slice none 0 0, .int .u8 0, .int .u8 0, .int .u8 0, .int .u8 0, .int .u8 0, .int .u8 0, .int .u8 0, .int .u8 0, .int .u8 0, .int .u8 0, .int .u8 0, .int .u8 0, .int .u8 0, .int .u8 0, .int .u8 0, .int .u8 0, .int .u8 0, .int .u8 0, .int .u8 0, .int .u8 0, .int .u8 0, .int .u8 0, .int .u8 0, .int .u8 0, .int .u8 0, .int .u8 0, .int .u8 0, .int .u8 0, .int .u8 0, .int .u8 0, .int .u8 0, .int .u8 0] 26 26
  have B1 : Blk W w.heap.size 26 (tokA t (.slice A t.gs.length c)) := by rw [hW]; exact (Blk.new _ _ _).alloc _
  have B2 : Blk W (w.heap.size + 1) 26 #[.string ⟨#[]⟩, .int .i64 0, .slice none 0 0, .int .u8 0, .int .u8 0, .int .u8 0, .int .u8 0, .int .u8 0, .int .u8 0, .int .u8 0, .int .u8 0, .int .u8 0, .int .u8 0, .int .u8 0, .int .u8 0, .int .u8 0, .int .u8 0, .int .u8 0, .int .u8 0, .int .u8 0, .int .u8 0, .int .u8 0, .int .u8 0, .int .u8 0, .int .u8 0, .int .u8 0, .int .u8 0, .int .u8 0, .int .u8 0, .int .u8 0, .int .u8 0, .int .u8 0, .int .u8 0, .int .u8 0, .int .u8 0] := by rw [hW]; have := Blk.new (w.alloc (.cells (tokA t (.slice A t.gs.length c)) 26)) 26 #[.string ⟨#[]⟩, .int .i64 0, .slice none 0 0, .int .u8 0, .int .u8 0, .int .u8 0, .int .u8 0, .int .u8 0, .int .u8 0, .int .u8 0, .int .u8 0, .int .u8 0, .int .u8 0, .int .u8 0, .int .u8 0, .int .u8 0, .int .u8 0, .int .u8 0, .int .u8 0, .int .u8 0, .int .u8 0, .int .u8 0, .int .u8 0, .int .u8 0, .int .u8 0, .int .u8 0, .int .u8 0, .int .u8 0, .int .u8 0, .int .u8 0, .int .u8 0, .int .u8 0, .int .u8 0, .int .u8 0, .int .u8 0]; simpa using this
  have hcp := copyGrants_any W A c t.gs (hS.ext hE) hc hn
  have x2 : W.cell? ⟨w.heap.size, 2, none⟩ = some (.slice A t.gs.length c) := bx 2 _ rfl
  have hWs0 : W.heap.size = w.heap.size + 2 := by rw [hW]; simp
  obtain ⟨n, hln⟩ : ∃ n, t.gs.length = n := ⟨_, rfl⟩
  rw [hln] at hcp x2 hW B1 ⊢
  have HW := Lib.hid hWs0
  have HL := Lib.hid hln
  clear bx hS hWs0 hln
  go_enter Tryz.func43, Tryz.ntmps43
  go_upto_region 1 with fail
  rw [← hW]
  clear hW
  go_wp2_with (first | (go_at_call 114; (with_reducible refine hcp.mono ?_); rintro e w1 ⟨A1, c1, rfl, h1c, h1S, hE1⟩; have D1 := B1.ext hE1; have f2 := D1.frozen 2; have c2 := D1.cell 2 (v := .slice A n c) rfl; have D2 := (B2.ext hE1).far (p := ⟨w.heap.size, 2, none⟩) (by simp) (.slice A1 n c1); have E1 : Blk (w1.setCell ⟨w.heap.size, 2, none⟩ (.slice A1 n c1)) w.heap.size 26 (tokA t (.slice A1 n c1)) := D1.set_ 2 _; have hl := load_whole E1 26 _ Tryz.underlying26 rfl (by kernel_rfl); obtain ⟨w3, hr, B3, hX3⟩ := store_part D2 0 (tokA t (.slice A1 n c1)) [] [.string ⟨#[]⟩, .int .i64 0, .slice none 0 0, .int .u8 0, .int .u8 0, .int .u8 0, .int .u8 0, .int .u8 0, .int .u8 0, .int .u8 0, .int .u8 0, .int .u8 0, .int .u8 0, .int .u8 0, .int .u8 0, .int .u8 0, .int .u8 0, .int .u8 0, .int .u8 0, .int .u8 0, .int .u8 0, .int .u8 0, .int .u8 0, .int .u8 0, .int .u8 0, .int .u8 0, .int .u8 0, .int .u8 0, .int .u8 0, .int .u8 0, .int .u8 0, .int .u8 0, .int .u8 0, .int .u8 0, .int .u8 0] [] rfl rfl rfl 26 (by kernel_rfl) (one_tok _ _ rfl); clear hcp x2) | (refine wpList_load_by rfl rfl ?_ hl ?_; (· rfl)) | (refine wpList_store_by rfl rfl ?_ ?_ hr ?_; (· rfl); (· rfl)))
  have B3 : Blk w3 (w.heap.size + 1) 26 (tokA t (.slice A1 n c1)) := by simpa using B3
  refine bodyPost_ret (v := .agg (tokA t (.slice A1 n c1))) (results_cell_row (P := Tryz.prog) (fn := Tryz.f43) rfl _ w3 (w.heap.size + 1) _ _ _ _ rfl B3 Tryz.underlying26 rfl (by kernel_rfl)) rfl ?_
  have hX : Exc w.heap.size W.heap.size w1 w3 := by
    rw [HW.out]
    exact (Exc.setCell (lo := w.heap.size) (hi := w.heap.size + 2) (p := ⟨w.heap.size, 2, none⟩) (Nat.le_refl _) (by show w.heap.size < w.heap.size + 2; omega) _).trans (hX3.wide (by omega) (by omega))
  have hfin := fin_own hE hE1 hX
  refine ⟨_, rfl, ⟨A1, c1, by rw [HL.out], by rw [HL.out]; exact h1c, ?_⟩, hfin.1⟩
  rw [HL.out]
  exact h1S.mono hfin.2
end Go.Proofs.YtgfhbachgniipaaGreatDoor

/-! Commands: held against one another, copied. -/
namespace Go.Proofs.YtgfhbachgniipaaGreatDoor
set_option linter.unusedVariables false
set_option linter.unusedSimpArgs false
open Go.RowKit
theorem one_cmd (c : Cmd) (a b : Value) (h : a.oneCell' = true) (h' : b.oneCell' = true) : (cmdA c a b).all (·.oneCell') = true := by simp [cmdA, mb, oc_int, oc_str, oc_bool, h, h']
set_option maxHeartbeats 9000000 in
set_option maxRecDepth 100000 in
theorem sameCommand_any (w : World) (c : Cmd) (a b a' b' : Value) (h : GsV w c.tok.gs a) (h' : GsV w c.tok.gs a') (k : BsV w c.bodies b) (k' : BsV w c.bodies b') (hn : c.tok.gs.length ≤ 1000000) (hm : c.bodies.length ≤ 1000000) (hx : ∀ x ∈ c.bodies, x.length ≤ 9223372036854775807) :
    Calls Tryz.prog 18 #[.agg (cmdA c a b), .agg (cmdA c a' b')] w fun e w' => e = .returned (.bool true) ∧ Ext w w' := by
  have hst := fun (w' : World) (e : Ext w w') => sameToken_any w' c.tok a a' (h.ext e) (h'.ext e) hn
  obtain ⟨A, n, rfl, hc, hS⟩ := k
  obtain ⟨A', n', rfl, hc', hS'⟩ := k'
  have hsn := fun (w' : World) (h : Ext w w') => sameNested_any w' A n c.bodies (hS.ext h) hc (by omega) hx A' n' c.bodies (hS'.ext h) hc'
  simp only [beq_self_eq_true] at hsn
  obtain ⟨m, hlm⟩ : ∃ m, c.bodies.length = m := ⟨_, rfl⟩
  rw [hlm] at hsn ⊢
  obtain ⟨W, hW, hE, bx, cx⟩ := box2 w (cmdA c a (.slice A m n)) (cmdA c a' (.slice A' m n')) 31 31
  have B1 : Blk W w.heap.size 31 (cmdA c a (.slice A m n)) := by rw [hW]; exact (Blk.new _ _ _).alloc _
  have B2 : Blk W (w.heap.size + 1) 31 (cmdA c a' (.slice A' m n')) := by rw [hW]; have := Blk.new (w.alloc (.cells (cmdA c a (.slice A m n)) 31)) 31 (cmdA c a' (.slice A' m n')); simpa using this
  have x0 : W.cell? ⟨w.heap.size, 0, none⟩ = some (.int .i64 c.kind) := bx 0 _ rfl
  have xr0 := fun (w' : World) (h : Ext W w') => h.cellk x0
  clear x0
  have x36 : W.cell? ⟨w.heap.size, 36, none⟩ = some (.string c.st) := bx 36 _ rfl
  have xr36 := fun (w' : World) (h : Ext W w') => h.cellk x36
  clear x36
  have x37 : W.cell? ⟨w.heap.size, 37, none⟩ = some (.string c.su) := bx 37 _ rfl
  have xr37 := fun (w' : World) (h : Ext W w') => h.cellk x37
  clear x37
  have x38 : W.cell? ⟨w.heap.size, 38, none⟩ = some (.int .i64 c.ex) := bx 38 _ rfl
  have xr38 := fun (w' : World) (h : Ext W w') => h.cellk x38
  clear x38
  have x39 : W.cell? ⟨w.heap.size, 39, none⟩ = some (.slice A m n) := bx 39 _ rfl
  have xr39 := fun (w' : World) (h : Ext W w') => h.cellk x39
  clear x39
  have x40 : W.cell? ⟨w.heap.size, 40, none⟩ = some (.int .i64 c.fr) := bx 40 _ rfl
  have xr40 := fun (w' : World) (h : Ext W w') => h.cellk x40
  clear x40
  have x41 : W.cell? ⟨w.heap.size, 41, none⟩ = some (.int .i64 c.ct) := bx 41 _ rfl
  have xr41 := fun (w' : World) (h : Ext W w') => h.cellk x41
  clear x41
  have x46 : W.cell? ⟨w.heap.size, 46, none⟩ = some (.int .i64 c.id) := bx 46 _ rfl
  have xr46 := fun (w' : World) (h : Ext W w') => h.cellk x46
  clear x46
  have y0 : W.cell? ⟨w.heap.size + 1, 0, none⟩ = some (.int .i64 c.kind) := cx 0 _ rfl
  have yr0 := fun (w' : World) (h : Ext W w') => h.cellk y0
  clear y0
  have y36 : W.cell? ⟨w.heap.size + 1, 36, none⟩ = some (.string c.st) := cx 36 _ rfl
  have yr36 := fun (w' : World) (h : Ext W w') => h.cellk y36
  clear y36
  have y37 : W.cell? ⟨w.heap.size + 1, 37, none⟩ = some (.string c.su) := cx 37 _ rfl
  have yr37 := fun (w' : World) (h : Ext W w') => h.cellk y37
  clear y37
  have y38 : W.cell? ⟨w.heap.size + 1, 38, none⟩ = some (.int .i64 c.ex) := cx 38 _ rfl
  have yr38 := fun (w' : World) (h : Ext W w') => h.cellk y38
  clear y38
  have y39 : W.cell? ⟨w.heap.size + 1, 39, none⟩ = some (.slice A' m n') := cx 39 _ rfl
  have yr39 := fun (w' : World) (h : Ext W w') => h.cellk y39
  clear y39
  have y40 : W.cell? ⟨w.heap.size + 1, 40, none⟩ = some (.int .i64 c.fr) := cx 40 _ rfl
  have yr40 := fun (w' : World) (h : Ext W w') => h.cellk y40
  clear y40
  have y41 : W.cell? ⟨w.heap.size + 1, 41, none⟩ = some (.int .i64 c.ct) := cx 41 _ rfl
  have yr41 := fun (w' : World) (h : Ext W w') => h.cellk y41
  clear y41
  have y46 : W.cell? ⟨w.heap.size + 1, 46, none⟩ = some (.int .i64 c.id) := cx 46 _ rfl
  have yr46 := fun (w' : World) (h : Ext W w') => h.cellk y46
  clear y46
  have u := fun (w' : World) (h : Ext W w') => by
    have B := B1.ext h
    have u1 := load_part B 1 (tokA c.tok a) [.int .i64 c.kind] [.string c.st, .string c.su, .int .i64 c.ex, (.slice A m n), .int .i64 c.fr, .int .i64 c.ct, .int .i64 c.gr.r, .string c.gr.p, .bool c.gr.x, .int .i64 c.gr.u, .int .i64 c.id] rfl rfl 26 _ Tryz.underlying26 rfl (by kernel_rfl)
    have u8 := load_part B 42 (grA c.gr) ([.int .i64 c.kind] ++ (tokA c.tok a).toList ++ [.string c.st, .string c.su, .int .i64 c.ex, (.slice A m n), .int .i64 c.fr, .int .i64 c.ct]) [.int .i64 c.id] rfl rfl 29 _ Tryz.underlying29 rfl (by kernel_rfl)
    exact And.intro u1 u8
  have v := fun (w' : World) (h : Ext W w') => by
    have B := B2.ext h
    have u1 := load_part B 1 (tokA c.tok a') [.int .i64 c.kind] [.string c.st, .string c.su, .int .i64 c.ex, (.slice A' m n'), .int .i64 c.fr, .int .i64 c.ct, .int .i64 c.gr.r, .string c.gr.p, .bool c.gr.x, .int .i64 c.gr.u, .int .i64 c.id] rfl rfl 26 _ Tryz.underlying26 rfl (by kernel_rfl)
    have u8 := load_part B 42 (grA c.gr) ([.int .i64 c.kind] ++ (tokA c.tok a').toList ++ [.string c.st, .string c.su, .int .i64 c.ex, (.slice A' m n'), .int .i64 c.fr, .int .i64 c.ct]) [.int .i64 c.id] rfl rfl 29 _ Tryz.underlying29 rfl (by kernel_rfl)
    exact And.intro u1 u8
  have eg := fun (w' : World) => eql_gr w' c.gr
  generalize grA c.gr = G at u v eg
  generalize tokA c.tok a = T1 at *
  generalize tokA c.tok a' = T2 at *
  generalize cmdA c a (.slice A m n) = C1 at *
  generalize cmdA c a' (.slice A' m n') = C2 at *
  have hsn1 := fun (w' : World) (h : Ext W w') => hsn w' (hE.trans h)
  clear bx cx hS hS' hx hsn
  have hY := Ext.refl W
  go_enter Tryz.func18, Tryz.ntmps18
  go_upto_region 1 with fail
  rw [← hW]
  clear hW
  simp only [List.append_eq, List.cons_append, List.nil_append]
  refine wp_region_lit ?_
  iterate 7 (first | (refine pl_off (a' := ?_) rfl (by rfl) ?_ ?_; rotate_left 1; (· simp only [Act.put, List.setIfInBounds_toArray, List.set_cons_zero, List.set_cons_succ]; rfl)) | (refine pl_y (v := ?_) (a' := ?_) rfl (by rfl) ?_ ?_ ?_; rotate_left 2; (· go_simp; with_reducible rfl); (· simp only [Act.put, List.setIfInBounds_toArray, List.set_cons_zero, List.set_cons_succ]; rfl)))
  refine pl_y (v := ?_) (a' := ?_) rfl (by rfl) ?_ ?_ ?_
  rotate_left 2
  · (refine (run_op_load rfl ?_ ((u _ hY).1)).trans ?_; (· rfl); (· with_reducible rfl))
  · simp only [Act.put, List.setIfInBounds_toArray, List.set_cons_zero, List.set_cons_succ]; rfl
  iterate 1 (first | (refine pl_off (a' := ?_) rfl (by rfl) ?_ ?_; rotate_left 1; (· simp only [Act.put, List.setIfInBounds_toArray, List.set_cons_zero, List.set_cons_succ]; rfl)) | (refine pl_y (v := ?_) (a' := ?_) rfl (by rfl) ?_ ?_ ?_; rotate_left 2; (· go_simp; with_reducible rfl); (· simp only [Act.put, List.setIfInBounds_toArray, List.set_cons_zero, List.set_cons_succ]; rfl)))
  refine pl_y (v := ?_) (a' := ?_) rfl (by rfl) ?_ ?_ ?_
  rotate_left 2
  · (refine (run_op_load rfl ?_ ((v _ hY).1)).trans ?_; (· rfl); (· with_reducible rfl))
  · simp only [Act.put, List.setIfInBounds_toArray, List.set_cons_zero, List.set_cons_succ]; rfl
  refine pl_call (args := ?_) Tryz.func69 (by kernel_rfl) rfl (by rfl) rfl rfl ?_ ?_
  rotate_left 1
  · go_simp; with_reducible rfl
  (with_reducible refine (hst W hE).mono ?_)
  rintro e w1 ⟨rfl, hY1⟩
  refine ⟨_, _, rfl, (by simp only [Act.put, List.setIfInBounds_toArray, List.set_cons_zero, List.set_cons_succ]; rfl), ?_⟩
  iterate 27 (first | (refine pl_off (a' := ?_) rfl (by rfl) ?_ ?_; rotate_left 1; (· simp only [Act.put, List.setIfInBounds_toArray, List.set_cons_zero, List.set_cons_succ]; rfl)) | (refine pl_y (v := ?_) (a' := ?_) rfl (by rfl) ?_ ?_ ?_; rotate_left 2; (· go_simp; with_reducible rfl); (· simp only [Act.put, List.setIfInBounds_toArray, List.set_cons_zero, List.set_cons_succ]; rfl)))
  refine pl_call (args := ?_) Tryz.func70 (by kernel_rfl) rfl (by rfl) rfl rfl ?_ ?_
  rotate_left 1
  · go_simp; with_reducible rfl
  (with_reducible refine (hsn1 _ hY1).mono ?_)
  rintro e w2 ⟨rfl, hY2⟩
  refine ⟨_, _, rfl, (by simp only [Act.put, List.setIfInBounds_toArray, List.set_cons_zero, List.set_cons_succ]; rfl), ?_⟩
  have hY3 := hY1.trans hY2
  iterate 17 (first | (refine pl_off (a' := ?_) rfl (by rfl) ?_ ?_; rotate_left 1; (· simp only [Act.put, List.setIfInBounds_toArray, List.set_cons_zero, List.set_cons_succ]; rfl)) | (refine pl_y (v := ?_) (a' := ?_) rfl (by rfl) ?_ ?_ ?_; rotate_left 2; (· go_simp; with_reducible rfl); (· simp only [Act.put, List.setIfInBounds_toArray, List.set_cons_zero, List.set_cons_succ]; rfl)))
  refine pl_y (v := ?_) (a' := ?_) rfl (by rfl) ?_ ?_ ?_
  rotate_left 2
  · (refine (run_op_load rfl ?_ ((u _ hY3).2)).trans ?_; (· rfl); (· with_reducible rfl))
  · simp only [Act.put, List.setIfInBounds_toArray, List.set_cons_zero, List.set_cons_succ]; rfl
  iterate 1 (first | (refine pl_off (a' := ?_) rfl (by rfl) ?_ ?_; rotate_left 1; (· simp only [Act.put, List.setIfInBounds_toArray, List.set_cons_zero, List.set_cons_succ]; rfl)) | (refine pl_y (v := ?_) (a' := ?_) rfl (by rfl) ?_ ?_ ?_; rotate_left 2; (· go_simp; with_reducible rfl); (· simp only [Act.put, List.setIfInBounds_toArray, List.set_cons_zero, List.set_cons_succ]; rfl)))
  refine pl_y (v := ?_) (a' := ?_) rfl (by rfl) ?_ ?_ ?_
  rotate_left 2
  · (refine (run_op_load rfl ?_ ((v _ hY3).2)).trans ?_; (· rfl); (· with_reducible rfl))
  · simp only [Act.put, List.setIfInBounds_toArray, List.set_cons_zero, List.set_cons_succ]; rfl
  iterate 10 (first | (refine pl_off (a' := ?_) rfl (by rfl) ?_ ?_; rotate_left 1; (· simp only [Act.put, List.setIfInBounds_toArray, List.set_cons_zero, List.set_cons_succ]; rfl)) | (refine pl_y (v := ?_) (a' := ?_) rfl (by rfl) ?_ ?_ ?_; rotate_left 2; (· go_simp; with_reducible rfl); (· simp only [Act.put, List.setIfInBounds_toArray, List.set_cons_zero, List.set_cons_succ]; rfl)))
  refine wpList_nil ?_
  go_wp2_with fail
  go_ret
  exact ⟨rfl, hE.trans hY3⟩
set_option maxHeartbeats 9000000 in
set_option maxRecDepth 100000 in
theorem copyCommand_any (w : World) (c : Cmd) (a b : Value) (h : GsV w c.tok.gs a) (k : BsV w c.bodies b) (hn : c.tok.gs.length ≤ 1000000) (hm : c.bodies.length ≤ 4294967296) (hx : ∀ x ∈ c.bodies, x.length ≤ 4294967296) :
    Calls Tryz.prog 11 #[.agg (cmdA c a b)] w fun e w' => ∃ a' b', e = .returned (.agg (cmdA c a' b')) ∧ GsV (only w' w.heap.size w'.heap.size) c.tok.gs a' ∧ BsV (only w' w.heap.size w'.heap.size) c.bodies b' ∧ Ext w w' := by
  obtain ⟨A, n, rfl, hc, hS⟩ := k
  obtain ⟨W, hW, hE, -, -⟩ := box2 w (cmdA c a (.slice A c.bodies.length n)) #[.int .i64 0, .string ⟨#[]⟩, .int .i64 0, .slice none 0 0, .int .u8 0, .int .u8 0, .int .u8 0, .int .u8 0, .int .u8 0, .int .u8 0, .int .u8 0, .int .u8 0, .int .u8 0, .int .u8 0, .int .u8 0, .int .u8 0, .int .u8 0, .int .u8 0, .int .u8 0, .int .u8 0, .int .u8 0, .int .u8 0, .int .u8 0, .int .u8 0, .int .u8 0, .int .u8 0, .int .u8 0, .int .u8 0, .int .u8 0, .int .u8 0, .int .u8 0, .int .u8 0, .int .u8 0, .int .u8 0, .int .u8 0, .int .u8 0, .string ⟨#[]⟩, .string ⟨#[]⟩, .int .i64 0, .slice none 0 0, .int .i64 0, .int .i64 0, .int .i64 0, .string ⟨#[]⟩, .bool false, .int .i64 0, .int .i64 0] 31 31
  have B1 : Blk W w.heap.size 31 (cmdA c a (.slice A c.bodies.length n)) := by rw [hW]; exact (Blk.new _ _ _).alloc _
  have B2 : Blk W (w.heap.size + 1) 31 #[.int .i64 0, .string ⟨#[]⟩, .int .i64 0, .slice none 0 0, .int .u8 0, .int .u8 0, .int .u8 0, .int .u8 0, .int .u8 0, .int .u8 0, .int .u8 0, .int .u8 0, .int .u8 0, .int .u8 0, .int .u8 0, .int .u8 0, .int .u8 0, .int .u8 0, .int .u8 0, .int .u8 0, .int .u8 0, .int .u8 0, .int .u8 0, .int .u8 0, .int .u8 0, .int .u8 0, .int .u8 0, .int .u8 0, .int .u8 0, .int .u8 0, .int .u8 0, .int .u8 0, .int .u8 0, .int .u8 0, .int .u8 0, .int .u8 0, .string ⟨#[]⟩, .string ⟨#[]⟩, .int .i64 0, .slice none 0 0, .int .i64 0, .int .i64 0, .int .i64 0, .string ⟨#[]⟩, .bool false, .int .i64 0, .int .i64 0] := by rw [hW]; have := Blk.new (w.alloc (.cells (cmdA c a (.slice A c.bodies.length n)) 31)) 31 #[.int .i64 0, .string ⟨#[]⟩, .int .i64 0, .slice none 0 0, .int .u8 0, .int .u8 0, .int .u8 0, .int .u8 0, .int .u8 0, .int .u8 0, .int .u8 0, .int .u8 0, .int .u8 0, .int .u8 0, .int .u8 0, .int .u8 0, .int .u8 0, .int .u8 0, .int .u8 0, .int .u8 0, .int .u8 0, .int .u8 0, .int .u8 0, .int .u8 0, .int .u8 0, .int .u8 0, .int .u8 0, .int .u8 0, .int .u8 0, .int .u8 0, .int .u8 0, .int .u8 0, .int .u8 0, .int .u8 0, .int .u8 0, .int .u8 0, .string ⟨#[]⟩, .string ⟨#[]⟩, .int .i64 0, .slice none 0 0, .int .i64 0, .int .i64 0, .int .i64 0, .string ⟨#[]⟩, .bool false, .int .i64 0, .int .i64 0]; simpa using this
  have hct := copyToken_any W c.tok a (h.ext hE) hn
  have hcn := fun (w' : World) (e : Exc w.heap.size W.heap.size W w') => copyNested_any w' A n c.bodies (hS.ext (e.ext hE (Nat.le_refl _))) hc hm hx
  have l1 := load_part B1 1 (tokA c.tok a) [.int .i64 c.kind] [.string c.st, .string c.su, .int .i64 c.ex, (.slice A c.bodies.length n), .int .i64 c.fr, .int .i64 c.ct, .int .i64 c.gr.r, .string c.gr.p, .bool c.gr.x, .int .i64 c.gr.u, .int .i64 c.id] rfl rfl 26 _ Tryz.underlying26 rfl (by kernel_rfl)
  have hWs0 : W.heap.size = w.heap.size + 2 := by rw [hW]; simp
  obtain ⟨m, hlm⟩ : ∃ m, c.bodies.length = m := ⟨_, rfl⟩
  rw [hlm] at hcn hW B1 ⊢
  have HW := Lib.hid hWs0
  have HL := Lib.hid hlm
  clear hS hWs0 hlm
  go_enter Tryz.func11, Tryz.ntmps11
  go_upto_region 1 with fail
  rw [← hW]
  clear hW
  go_upto_region 2 with (first | (refine wpList_load_by rfl rfl ?_ l1 ?_; (· rfl)) | (go_at_call 43; (with_reducible refine hct.mono ?_); rintro e w1 ⟨a1, rfl, h1, hE1⟩; obtain ⟨A1, c1, rfl, h1c, h1S⟩ := id h1; have D1 := B1.ext hE1; obtain ⟨w2, hr2, E2, hX2⟩ := store_part D1 1 (tokA c.tok (.slice A1 c.tok.gs.length c1)) [.int .i64 c.kind] (tokA c.tok a).toList [.string c.st, .string c.su, .int .i64 c.ex, (.slice A m n), .int .i64 c.fr, .int .i64 c.ct, .int .i64 c.gr.r, .string c.gr.p, .bool c.gr.x, .int .i64 c.gr.u, .int .i64 c.id] rfl rfl rfl 26 (by kernel_rfl) (one_tok _ _ rfl); have E2 : Blk w2 w.heap.size 31 (cmdA c (.slice A1 c.tok.gs.length c1) (.slice A m n)) := E2) | (refine wpList_store_by rfl rfl ?_ ?_ hr2 ?_; (· rfl); (· rfl)))
  obtain ⟨p, hp⟩ : ∃ p, c.tok.gs.length = p := ⟨_, rfl⟩
  rw [hp] at E2
  have hX2w : Exc w.heap.size W.heap.size W w2 := (Ext.exc hE1).trans (hX2.wide (Nat.le_refl _) (by have := HW.out; omega))
  have c39 := E2.cell 39 (v := .slice A m n) rfl
  have f39 := E2.frozen 39
  have hcn2 := hcn w2 hX2w
  have D2 : Blk w2 (w.heap.size + 1) 31 #[.int .i64 0, .string ⟨#[]⟩, .int .i64 0, .slice none 0 0, .int .u8 0, .int .u8 0, .int .u8 0, .int .u8 0, .int .u8 0, .int .u8 0, .int .u8 0, .int .u8 0, .int .u8 0, .int .u8 0, .int .u8 0, .int .u8 0, .int .u8 0, .int .u8 0, .int .u8 0, .int .u8 0, .int .u8 0, .int .u8 0, .int .u8 0, .int .u8 0, .int .u8 0, .int .u8 0, .int .u8 0, .int .u8 0, .int .u8 0, .int .u8 0, .int .u8 0, .int .u8 0, .int .u8 0, .int .u8 0, .int .u8 0, .int .u8 0, .string ⟨#[]⟩, .string ⟨#[]⟩, .int .i64 0, .slice none 0 0, .int .i64 0, .int .i64 0, .int .i64 0, .string ⟨#[]⟩, .bool false, .int .i64 0, .int .i64 0] := hX2.blk (B2.ext hE1) (.inr (Nat.le_refl _))
  clear l1 hct hcn B1 B2 D1
  go_upto_region 3 with (go_at_call 44; (with_reducible refine hcn2.mono ?_); rintro e w3 ⟨A3, c3, rfl, h3c, h3S, hE3⟩; have d39 := (E2.ext hE3).cell 39 (v := .slice A m n) rfl; have g39 := (E2.ext hE3).frozen 39)
  have E4 : Blk (w3.setCell ⟨w.heap.size, 39, none⟩ (.slice A3 m c3)) w.heap.size 31 (cmdA c (.slice A1 p c1) (.slice A3 m c3)) := (E2.ext hE3).set_ 39 _
  have D4 : Blk (w3.setCell ⟨w.heap.size, 39, none⟩ (.slice A3 m c3)) (w.heap.size + 1) 31 #[.int .i64 0, .string ⟨#[]⟩, .int .i64 0, .slice none 0 0, .int .u8 0, .int .u8 0, .int .u8 0, .int .u8 0, .int .u8 0, .int .u8 0, .int .u8 0, .int .u8 0, .int .u8 0, .int .u8 0, .int .u8 0, .int .u8 0, .int .u8 0, .int .u8 0, .int .u8 0, .int .u8 0, .int .u8 0, .int .u8 0, .int .u8 0, .int .u8 0, .int .u8 0, .int .u8 0, .int .u8 0, .int .u8 0, .int .u8 0, .int .u8 0, .int .u8 0, .int .u8 0, .int .u8 0, .int .u8 0, .int .u8 0, .int .u8 0, .string ⟨#[]⟩, .string ⟨#[]⟩, .int .i64 0, .slice none 0 0, .int .i64 0, .int .i64 0, .int .i64 0, .string ⟨#[]⟩, .bool false, .int .i64 0, .int .i64 0] := (D2.ext hE3).far (p := ⟨w.heap.size, 39, none⟩) (by simp) _
  have hX4 : Exc w.heap.size (w.heap.size + 1) w3 (w3.setCell ⟨w.heap.size, 39, none⟩ (.slice A3 m c3)) := Exc.setCell (lo := w.heap.size) (hi := w.heap.size + 1) (p := ⟨w.heap.size, 39, none⟩) (Nat.le_refl _) (by show w.heap.size < w.heap.size + 1; omega) _
  generalize w3.setCell ⟨w.heap.size, 39, none⟩ (.slice A3 m c3) = w4 at E4 D4 hX4 ⊢
  have hl := load_whole E4 31 _ Tryz.underlying31 rfl (by kernel_rfl)
  obtain ⟨w5, hr5, B5, hX5⟩ := store_part D4 0 (cmdA c (.slice A1 p c1) (.slice A3 m c3)) [] [.int .i64 0, .string ⟨#[]⟩, .int .i64 0, .slice none 0 0, .int .u8 0, .int .u8 0, .int .u8 0, .int .u8 0, .int .u8 0, .int .u8 0, .int .u8 0, .int .u8 0, .int .u8 0, .int .u8 0, .int .u8 0, .int .u8 0, .int .u8 0, .int .u8 0, .int .u8 0, .int .u8 0, .int .u8 0, .int .u8 0, .int .u8 0, .int .u8 0, .int .u8 0, .int .u8 0, .int .u8 0, .int .u8 0, .int .u8 0, .int .u8 0, .int .u8 0, .int .u8 0, .int .u8 0, .int .u8 0, .int .u8 0, .int .u8 0, .string ⟨#[]⟩, .string ⟨#[]⟩, .int .i64 0, .slice none 0 0, .int .i64 0, .int .i64 0, .int .i64 0, .string ⟨#[]⟩, .bool false, .int .i64 0, .int .i64 0] [] rfl rfl rfl 31 (by kernel_rfl) (one_cmd _ _ _ rfl rfl)
  clear c39 f39 d39 g39 hcn2 E2 D2
  go_wp2_with (first | (refine wpList_load_by rfl rfl ?_ hl ?_; (· rfl)) | (refine wpList_store_by rfl rfl ?_ ?_ hr5 ?_; (· rfl); (· rfl)))
  have B5 : Blk w5 (w.heap.size + 1) 31 (cmdA c (.slice A1 p c1) (.slice A3 m c3)) := by simpa using B5
  refine bodyPost_ret (v := .agg (cmdA c (.slice A1 p c1) (.slice A3 m c3))) (results_cell_row (P := Tryz.prog) (fn := Tryz.f11) rfl _ w5 (w.heap.size + 1) _ _ _ _ rfl B5 Tryz.underlying31 rfl (by kernel_rfl)) rfl ?_
  have hXa : Exc w.heap.size W.heap.size w3 w5 := (hX4.wide (Nat.le_refl _) (by have := HW.out; omega)).trans (hX5.wide (by omega) (by have := HW.out; omega))
  have hEw : Ext w w5 := Exc.ext hE (hX2w.trans ((Ext.exc hE3).trans hXa)) (Nat.le_refl _)
  have hs2 : W.heap.size ≤ w2.heap.size := hX2w.size
  have k1 : Cle (only w1 W.heap.size w1.heap.size) (only w5 w.heap.size w5.heap.size) := by
    have hX15 : Exc w.heap.size W.heap.size w1 w5 := (hX2.wide (Nat.le_refl _) (by have := HW.out; omega)).trans ((Ext.exc hE3).trans hXa)
    have e : only w5 W.heap.size w1.heap.size = only w1 W.heap.size w1.heap.size := hX15.only (Nat.le_refl _) (.inr (Nat.le_refl _))
    rw [← e]
    exact only_wide hE.le hX15.size
  have k3 : Cle (only w3 w2.heap.size w3.heap.size) (only w5 w.heap.size w5.heap.size) := by
    have e : only w5 w2.heap.size w3.heap.size = only w3 w2.heap.size w3.heap.size := hXa.only (Nat.le_refl _) (.inr hs2)
    rw [← e]
    exact only_wide (Nat.le_trans hE.le hs2) hXa.size
  refine ⟨_, _, rfl, ?_, ?_, hEw⟩
  · have := h1.mono k1
    rwa [hp] at this
  · exact ⟨A3, c3, by rw [HL.out], by rw [HL.out]; exact h3c, by rw [HL.out]; exact h3S.mono k3⟩
end Go.Proofs.YtgfhbachgniipaaGreatDoor

/-! Commands: written over; how great one is. -/
namespace Go.Proofs.YtgfhbachgniipaaGreatDoor
set_option linter.unusedVariables false
set_option linter.unusedSimpArgs false
open Go.RowKit
/-- The grants and bodies of a command in the blocks from lo on, below hi, the grants in a part of its own. -/
def CmdIn (w : World) (lo hi : Nat) (c : Cmd) (a b : Value) : Prop := ∃ l h, lo ≤ l ∧ h ≤ hi ∧ GsV (only w l h) c.tok.gs a ∧ BsV (only (gap w l h) lo hi) c.bodies b
set_option maxHeartbeats 9000000 in
set_option maxRecDepth 100000 in
theorem spoilCommand_any (w : World) (lo hi : Nat) (hh : hi ≤ w.heap.size) (c : Cmd) (a b : Value) (h : CmdIn w lo hi c a b) (hn : c.tok.gs.length ≤ 4294967296) (hm : c.bodies.length ≤ 4294967296) (hx : ∀ x ∈ c.bodies, x.length ≤ 4294967296) :
    Calls Tryz.prog 31 #[.agg (cmdA c a b)] w fun e w' => e = .returned (.tuple #[]) ∧ Exc lo hi w w' := by
  obtain ⟨l, h, hl, hhi, ⟨A, n, rfl, hc, hG⟩, ⟨B, m, rfl, hd, hS⟩⟩ := h
  obtain ⟨W, hW, hE, bx⟩ := box1 w (cmdA c (.slice A c.tok.gs.length n) (.slice B c.bodies.length m)) 31
  have B1 : Blk W w.heap.size 31 (cmdA c (.slice A c.tok.gs.length n) (.slice B c.bodies.length m)) := by rw [hW]; exact Blk.new _ _ _
  have hWs : W.heap.size = w.heap.size + 1 := by rw [hW]; simp
  rw [← only_ext hE (Nat.le_trans hhi hh)] at hG
  have hR := rowsAt_of hG
  have hgk : only (gap W l h) lo hi = only (gap w l h) lo hi := gap_keep hE.exc hh
  rw [← hgk] at hS
  have x3 : W.cell? ⟨w.heap.size, 3, none⟩ = some (.slice A c.tok.gs.length n) := bx 3 _ rfl
  obtain ⟨p, hp⟩ : ∃ n, c.tok.gs.length = n := ⟨_, rfl⟩
  obtain ⟨q, hq⟩ : ∃ n, c.bodies.length = n := ⟨_, rfl⟩
  rw [hp] at hR hc hn x3
  rw [hp, hq] at hW B1 ⊢
  rw [hq] at hS hd hm
  have HW := Lib.hid hWs
  clear bx hWs hG hgk hp
  have hsg := spoilGrants_any W l h (Nat.le_trans hhi (Nat.le_trans hh hE.le)) A p n hR hc hn
  go_enter Tryz.func31, Tryz.ntmps31
  go_upto_region 1 with fail
  rw [← hW]
  clear hW
  go_upto_region 2 with (go_at_call 109; (with_reducible refine hsg.mono ?_); rintro e w1 ⟨rfl, hX1⟩)
  have hh1 : hi ≤ w1.heap.size := Nat.le_trans hh (Nat.le_trans hE.le hX1.size)
  have hS1 : rdB.Sl (only w1 lo hi) B q c.bodies := by
    rw [← gap_keep hX1 (Nat.le_trans hh hE.le)] at hS
    exact hS.mono (gap_cle w1 l h lo hi hh1)
  have hX1 : Exc lo hi W w1 := hX1.wide hl hhi
  have D1 : Blk w1 w.heap.size 31 (cmdA c (.slice A p n) (.slice B q m)) := hX1.blk B1 (.inr hh)
  clear hsg hS hR x3 B1
  go_wp2_with fail
  go_loopw [2] (fun i wr => ∃ k : Nat, k ≤ q ∧ i = .int .i64 k ∧ Exc lo hi w1 wr ∧ Kind w1 wr) (fun i _ => q - (intOf i).toNat)
  case atStart => exact ⟨0, by omega, rfl, Exc.refl _ _ _, Kind.refl _⟩
  case round =>
    obtain ⟨k, hkn, rfl, hwr, hK⟩ := hrel
    have D2 := (hwr.blk D1 (.inr hh)).cell 39 (v := .slice B q m) rfl
    clear D1
    by_cases hlt : k < q
    · obtain ⟨b, o, A1, c1, rfl, x0, h1c, h1S⟩ := n_get hS1 k hlt
      have hxm := hx _ (List.getElem_mem (l := c.bodies) (n := k) (by omega))
      generalize hx : c.bodies[k]'(by omega) = x at *
      obtain ⟨v', hv', ht⟩ := hK.only x0
      obtain rfl : v' = .slice A1 x.length c1 := by
        rcases ht with rfl | ⟨_, _, h, _⟩
        · rfl
        · cases h
      have x1 := (only_cell hv').2.2.1
      obtain ⟨y, hyl, hyS⟩ := kind_bytes hK h1S
      rw [← hyl] at x1 h1c hxm hyS
      have hsp := spoilBytes_any wr lo hi A1 c1 y hyS h1c hxm
      obtain ⟨ny, hny⟩ : ∃ ny, y.length = ny := ⟨_, rfl⟩
      rw [hny] at x1 hsp
      clear hS1 h1S hx x0 hv' ht hyS
      go_wp2_with (go_at_call 17; (with_reducible refine hsp.mono ?_); rintro e w2 ⟨rfl, hX2, hK2⟩)
      go_roundw
      case rel => exact ⟨k + 1, by omega, by go_num, hwr.trans hX2, hK.trans hK2⟩
      case measure => simp [intOf]; omega
    · obtain rfl : k = q := by omega
      have hR := (rowAt_nested hS1).there hK.there
      have hhr : hi ≤ wr.heap.size := Nat.le_trans hh1 hwr.size
      clear hS1
      go_wp2_with (go_at_call 110; (with_reducible refine (spoilNested_any wr lo hi hhr B k m hR hd hm).mono ?_); rintro e w2 ⟨rfl, hX2⟩)
      go_end0
      exact ⟨rfl, (Ext.exc hE).trans (hX1.trans (hwr.trans hX2))⟩
end Go.Proofs.YtgfhbachgniipaaGreatDoor

/-! How great a command, a token is. -/
namespace Go.Proofs.YtgfhbachgniipaaGreatDoor
set_option linter.unusedVariables false
set_option linter.unusedSimpArgs false
open Go.RowKit
structure TokSmall (t : Tok) : Prop where
  n : t.gs.length ≤ 40
  ten : t.ten.size ≤ 4096
  p : ∀ g ∈ t.gs, g.p.size ≤ 4096
structure CmdSmall (c : Cmd) (rows bytes : Nat) : Prop where
  n : c.tok.gs.length ≤ rows
  m : c.bodies.length ≤ rows
  all : allN c.bodies 0 ≤ bytes
  ten : c.tok.ten.size ≤ bytes
  st : c.st.size ≤ bytes
  su : c.su.size ≤ bytes
  p : c.gr.p.size ≤ bytes
theorem dec_false {a b : Nat} (h : decide ((a : Int) < (b : Int)) = false) : b ≤ a := by simp at h; omega
def BigP (w : World) (S : Prop) (e : Ending) (w' : World) : Prop := ∃ v, e = .returned (.bool v) ∧ (v = false → S) ∧ Ext w w'
theorem bigP_true {w w' : World} {S : Prop} (h : Ext w w') : BigP w S (.returned (.bool true)) w' := ⟨true, rfl, (fun h => by cases h), h⟩
theorem bigP_of {w w' : World} {S : Prop} {b v : Bool} (e : b = v) (hS : v = false → S) (h : Ext w w') : BigP w S (.returned (.bool b)) w' := ⟨v, by rw [e], hS, h⟩
set_option maxHeartbeats 9000000 in
set_option maxRecDepth 100000 in
theorem bigCommand_any (w : World) (c : Cmd) (a b : Value) (h : GsV w c.tok.gs a) (k : BsV w c.bodies b) (hm : c.bodies.length ≤ 9223372036854775807) (hx : ∀ x ∈ c.bodies, x.length ≤ 1000000000000000000) (rows bytes : Nat) :
    Calls Tryz.prog 41 #[.agg (cmdA c a b), .int .i64 rows, .int .i64 bytes] w (BigP w (CmdSmall c rows bytes)) := by
  obtain ⟨A, n, rfl, hc, hG⟩ := h
  obtain ⟨B, m, rfl, hd, hS⟩ := k
  have hal := fun (w' : World) (e : Ext w w') => all_any w' B m c.bodies (hS.ext e) hd hm hx
  obtain ⟨W, hW, hE, bx⟩ := box1 w (cmdA c (.slice A c.tok.gs.length n) (.slice B c.bodies.length m)) 31
  have x1 : W.cell? ⟨w.heap.size, 1, none⟩ = some (.string c.tok.ten) := bx 1 _ rfl
  have x3 : W.cell? ⟨w.heap.size, 3, none⟩ = some (.slice A c.tok.gs.length n) := bx 3 _ rfl
  have x36 : W.cell? ⟨w.heap.size, 36, none⟩ = some (.string c.st) := bx 36 _ rfl
  have x37 : W.cell? ⟨w.heap.size, 37, none⟩ = some (.string c.su) := bx 37 _ rfl
  have x39 : W.cell? ⟨w.heap.size, 39, none⟩ = some (.slice B c.bodies.length m) := bx 39 _ rfl
  have x43 : W.cell? ⟨w.heap.size, 43, none⟩ = some (.string c.gr.p) := bx 43 _ rfl
  obtain ⟨b0, h0⟩ : ∃ b, decide ((rows : Int) < (c.tok.gs.length : Int)) = b := ⟨_, rfl⟩
  have g0 : decide (rows < c.tok.gs.length) = b0 := by rw [← h0]; simp
  obtain ⟨b1, h1⟩ : ∃ b, decide ((rows : Int) < (c.bodies.length : Int)) = b := ⟨_, rfl⟩
  have g1 : decide (rows < c.bodies.length) = b1 := by rw [← h1]; simp
  obtain ⟨b2, h2⟩ : ∃ b, decide ((bytes : Int) < (allN c.bodies 0 : Int)) = b := ⟨_, rfl⟩
  have g2 : decide (bytes < allN c.bodies 0) = b2 := by rw [← h2]; simp
  obtain ⟨b3, h3⟩ : ∃ b, decide ((bytes : Int) < (c.tok.ten.size : Int)) = b := ⟨_, rfl⟩
  have g3 : decide (bytes < c.tok.ten.size) = b3 := by rw [← h3]; simp
  obtain ⟨b4, h4⟩ : ∃ b, decide ((bytes : Int) < (c.st.size : Int)) = b := ⟨_, rfl⟩
  have g4 : decide (bytes < c.st.size) = b4 := by rw [← h4]; simp
  obtain ⟨b5, h5⟩ : ∃ b, decide ((bytes : Int) < (c.su.size : Int)) = b := ⟨_, rfl⟩
  have g5 : decide (bytes < c.su.size) = b5 := by rw [← h5]; simp
  obtain ⟨b6, h6⟩ : ∃ b, decide ((bytes : Int) < (c.gr.p.size : Int)) = b := ⟨_, rfl⟩
  have g6 : decide (bytes < c.gr.p.size) = b6 := by rw [← h6]; simp
  have hfin : b0 = false → b1 = false → b2 = false → b3 = false → b4 = false → b5 = false → b6 = false → CmdSmall c rows bytes := by
    rintro rfl rfl rfl rfl rfl rfl rfl
    clear g0 g1 g2 g3 g4 g5 g6
    exact ⟨dec_false h0, dec_false h1, dec_false h2, dec_false h3, dec_false h4, dec_false h5, dec_false h6⟩
  have HF := Lib.hid hfin
  clear hfin
  generalize c.tok.gs.length = p at *
  generalize c.bodies.length = q at *
  generalize allN c.bodies 0 = al at *
  clear bx hG hS hx
  go_enter Tryz.func41, Tryz.ntmps41
  go_upto_region 1 with fail
  rw [← hW]
  clear hW
  refine wp_region_lit ?_
  iterate 7 (first | (refine pl_off (a' := ?_) rfl (by rfl) ?_ ?_; rotate_left 1; (· simp only [Act.put, List.setIfInBounds_toArray, List.set_cons_zero, List.set_cons_succ]; rfl)) | (refine pl_y (v := ?_) (a' := ?_) rfl (by rfl) ?_ ?_ ?_; rotate_left 2; (· go_simp; with_reducible rfl); (· simp only [Act.put, List.setIfInBounds_toArray, List.set_cons_zero, List.set_cons_succ]; rfl)))
  cases b0
  rotate_left 1
  · refine pl_deadQ 6 (.bool true) (by kernel_rfl) (fun a' h1 h2 h3 => ?_)
    go_wp2_with fail
    exact bodyPost_ret (v := .bool true) (by simp [results, Tryz.results41, h1, h2]) h3 (bigP_true hE)
  iterate 7 (first | (refine pl_off (a' := ?_) rfl (by rfl) ?_ ?_; rotate_left 1; (· simp only [Act.put, List.setIfInBounds_toArray, List.set_cons_zero, List.set_cons_succ]; rfl)) | (refine pl_y (v := ?_) (a' := ?_) rfl (by rfl) ?_ ?_ ?_; rotate_left 2; (· go_simp; with_reducible rfl); (· simp only [Act.put, List.setIfInBounds_toArray, List.set_cons_zero, List.set_cons_succ]; rfl)))
  cases b1
  rotate_left 1
  · refine pl_deadQ 6 (.bool true) (by kernel_rfl) (fun a' h1 h2 h3 => ?_)
    go_wp2_with fail
    exact bodyPost_ret (v := .bool true) (by simp [results, Tryz.results41, h1, h2]) h3 (bigP_true hE)
  iterate 2 (first | (refine pl_off (a' := ?_) rfl (by rfl) ?_ ?_; rotate_left 1; (· simp only [Act.put, List.setIfInBounds_toArray, List.set_cons_zero, List.set_cons_succ]; rfl)) | (refine pl_y (v := ?_) (a' := ?_) rfl (by rfl) ?_ ?_ ?_; rotate_left 2; (· go_simp; with_reducible rfl); (· simp only [Act.put, List.setIfInBounds_toArray, List.set_cons_zero, List.set_cons_succ]; rfl)))
  refine pl_call (args := ?_) Tryz.func113 (by kernel_rfl) rfl (by rfl) rfl rfl ?_ ?_
  rotate_left 1
  · go_simp; with_reducible rfl
  (with_reducible refine (hal W hE).mono ?_)
  rintro e w1 ⟨rfl, hY⟩
  refine ⟨_, _, rfl, (by simp only [Act.put, List.setIfInBounds_toArray, List.set_cons_zero, List.set_cons_succ]; rfl), ?_⟩
  have x1 := hY.cellk x1
  have x36 := hY.cellk x36
  have x37 := hY.cellk x37
  have x43 := hY.cellk x43
  have hE := hE.trans hY
  iterate 4 (first | (refine pl_off (a' := ?_) rfl (by rfl) ?_ ?_; rotate_left 1; (· simp only [Act.put, List.setIfInBounds_toArray, List.set_cons_zero, List.set_cons_succ]; rfl)) | (refine pl_y (v := ?_) (a' := ?_) rfl (by rfl) ?_ ?_ ?_; rotate_left 2; (· go_simp; with_reducible rfl); (· simp only [Act.put, List.setIfInBounds_toArray, List.set_cons_zero, List.set_cons_succ]; rfl)))
  cases b2
  rotate_left 1
  · refine pl_deadQ 6 (.bool true) (by kernel_rfl) (fun a' h1 h2 h3 => ?_)
    go_wp2_with fail
    exact bodyPost_ret (v := .bool true) (by simp [results, Tryz.results41, h1, h2]) h3 (bigP_true hE)
  iterate 8 (first | (refine pl_off (a' := ?_) rfl (by rfl) ?_ ?_; rotate_left 1; (· simp only [Act.put, List.setIfInBounds_toArray, List.set_cons_zero, List.set_cons_succ]; rfl)) | (refine pl_y (v := ?_) (a' := ?_) rfl (by rfl) ?_ ?_ ?_; rotate_left 2; (· go_simp; with_reducible rfl); (· simp only [Act.put, List.setIfInBounds_toArray, List.set_cons_zero, List.set_cons_succ]; rfl)))
  cases b3
  rotate_left 1
  · refine pl_deadQ 6 (.bool true) (by kernel_rfl) (fun a' h1 h2 h3 => ?_)
    go_wp2_with fail
    exact bodyPost_ret (v := .bool true) (by simp [results, Tryz.results41, h1, h2]) h3 (bigP_true hE)
  iterate 7 (first | (refine pl_off (a' := ?_) rfl (by rfl) ?_ ?_; rotate_left 1; (· simp only [Act.put, List.setIfInBounds_toArray, List.set_cons_zero, List.set_cons_succ]; rfl)) | (refine pl_y (v := ?_) (a' := ?_) rfl (by rfl) ?_ ?_ ?_; rotate_left 2; (· go_simp; with_reducible rfl); (· simp only [Act.put, List.setIfInBounds_toArray, List.set_cons_zero, List.set_cons_succ]; rfl)))
  cases b4
  rotate_left 1
  · refine pl_deadQ 6 (.bool true) (by kernel_rfl) (fun a' h1 h2 h3 => ?_)
    go_wp2_with fail
    exact bodyPost_ret (v := .bool true) (by simp [results, Tryz.results41, h1, h2]) h3 (bigP_true hE)
  iterate 7 (first | (refine pl_off (a' := ?_) rfl (by rfl) ?_ ?_; rotate_left 1; (· simp only [Act.put, List.setIfInBounds_toArray, List.set_cons_zero, List.set_cons_succ]; rfl)) | (refine pl_y (v := ?_) (a' := ?_) rfl (by rfl) ?_ ?_ ?_; rotate_left 2; (· go_simp; with_reducible rfl); (· simp only [Act.put, List.setIfInBounds_toArray, List.set_cons_zero, List.set_cons_succ]; rfl)))
  cases b5
  rotate_left 1
  · refine pl_deadQ 6 (.bool true) (by kernel_rfl) (fun a' h1 h2 h3 => ?_)
    go_wp2_with fail
    exact bodyPost_ret (v := .bool true) (by simp [results, Tryz.results41, h1, h2]) h3 (bigP_true hE)
  iterate 8 (first | (refine pl_off (a' := ?_) rfl (by rfl) ?_ ?_; rotate_left 1; (· simp only [Act.put, List.setIfInBounds_toArray, List.set_cons_zero, List.set_cons_succ]; rfl)) | (refine pl_y (v := ?_) (a' := ?_) rfl (by rfl) ?_ ?_ ?_; rotate_left 2; (· go_simp; with_reducible rfl); (· simp only [Act.put, List.setIfInBounds_toArray, List.set_cons_zero, List.set_cons_succ]; rfl)))
  refine wpList_nil ?_
  go_wp2_with fail
  go_ret
  exact bigP_of (by simp) (fun h => HF.out (by trivial) (by trivial) (by trivial) (by trivial) (by trivial) (by trivial) h) hE
set_option maxHeartbeats 9000000 in
set_option maxRecDepth 100000 in
theorem wide_any (w : World) (t : Tok) (a : Value) (h : GsV w t.gs a) (hn : t.gs.length ≤ 9223372036854775807) :
    Calls Tryz.prog 42 #[.agg (tokA t a)] w (BigP w (TokSmall t)) := by
  obtain ⟨A, n, rfl, hc, hG⟩ := h
  obtain ⟨W, hW, hE, bx⟩ := box1 w (tokA t (.slice A t.gs.length n)) 26
  have x0 : W.cell? ⟨w.heap.size, 0, none⟩ = some (.string t.ten) := bx 0 _ rfl
  have x2 : W.cell? ⟨w.heap.size, 2, none⟩ = some (.slice A t.gs.length n) := bx 2 _ rfl
  obtain ⟨p, hp⟩ : ∃ n, t.gs.length = n := ⟨_, rfl⟩
  rw [hp] at hG hc hn x2
  have HP := Lib.hid hp
  rw [hp] at hW
  clear bx hp
  have hS := hG.ext hE
  clear hG
  by_cases h0 : 40 < p
  · go_enter Tryz.func42, Tryz.ntmps42
    go_upto_region 1 with fail
    rw [HP.out, ← hW]
    clear hW
    go_wp2_with fail
    go_ret
    exact bigP_true hE
  by_cases h1 : 4096 < t.ten.size
  · go_enter Tryz.func42, Tryz.ntmps42
    go_upto_region 1 with fail
    rw [HP.out, ← hW]
    clear hW
    go_wp2_with fail
    go_ret
    exact bigP_true hE
  go_enter Tryz.func42, Tryz.ntmps42
  go_upto_region 1 with fail
  rw [HP.out, ← hW]
  clear hW
  go_wp2_with fail
  go_loopw [3] (fun i wr => ∃ k : Nat, k ≤ p ∧ i = .int .i64 k ∧ (∀ g ∈ t.gs.take k, g.p.size ≤ 4096) ∧ wr = W) (fun i _ => p - (intOf i).toNat)
  case atStart => exact ⟨0, by omega, rfl, (fun g hg => by simp at hg), rfl⟩
  case round =>
    obtain ⟨k, hkn, rfl, hall, rfl⟩ := hrel
    by_cases hlt : k < p
    · obtain ⟨b, o, cs, rfl, hK, hcell⟩ := hS.get k hlt
      obtain rfl := gr_cells hK
      have hl := HP.out
      have ht : t.gs.take (k + 1) = t.gs.take k ++ [t.gs[k]'(by omega)] := List.take_succ_eq_append_getElem (by omega)
      generalize t.gs[k]'(by omega) = x at *
      have y1 := hcell 1 (.string x.p) rfl
      have y1 : wr.cell? ⟨b, o + k * 4 + 1, none⟩ = some (.string x.p) := y1
      have HT := Lib.hid ht
      have HA := Lib.hid hall
      by_cases hz : 4096 < x.p.size
      · clear hS hK hcell ht hl hall
        go_wp2_with fail
        go_ret
        exact bigP_true hE
      · clear hS hK hcell ht hl hall
        go_wp2_with fail
        go_roundw
        case rel =>
          refine ⟨k + 1, by omega, by go_num, fun g hg => ?_, by trivial⟩
          rw [HT.out, List.mem_append, List.mem_singleton] at hg
          rcases hg with hg | rfl
          · exact HA.out g hg
          · omega
        case measure => simp [intOf]; omega
    · obtain rfl : k = p := by omega
      rw [← HP.out, List.take_length] at hall
      have HA := Lib.hid hall
      clear hS hall
      go_wp2_with fail
      go_ret
      exact bigP_of rfl (fun _ => ⟨by rw [HP.out]; omega, by omega, HA.out⟩) hE
set_option maxHeartbeats 9000000 in
set_option maxRecDepth 100000 in
theorem big_any (w : World) (c : Cmd) (a b : Value) (h : GsV w c.tok.gs a) (k : BsV w c.bodies b) (hn : c.tok.gs.length ≤ 9223372036854775807) (hm : c.bodies.length ≤ 9223372036854775807) (hx : ∀ x ∈ c.bodies, x.length ≤ 1000000000000000000) :
    Calls Tryz.prog 9 #[.agg (cmdA c a b)] w (BigP w (CmdSmall c 40 8192 ∧ TokSmall c.tok)) := by
  have h1 := fun (w' : World) (e : Ext w w') => bigCommand_any w' c a b (h.ext e) (k.ext e) hm hx 40 8192
  simp only [show ((40 : Nat) : Int) = 40 from rfl, show ((8192 : Nat) : Int) = 8192 from rfl] at h1
  have h2 := fun (w' : World) (e : Ext w w') => wide_any w' c.tok a (h.ext e) hn
  obtain ⟨W, hW, hE, bx⟩ := box1 w (cmdA c a b) 31
  have B1 : Blk W w.heap.size 31 (cmdA c a b) := by rw [hW]; exact Blk.new _ _ _
  have l0 := load_whole B1 31 _ Tryz.underlying31 rfl (by kernel_rfl)
  have l1 := fun (w' : World) (e : Ext W w') => load_part (B1.ext e) 1 (tokA c.tok a) [.int .i64 c.kind] [.string c.st, .string c.su, .int .i64 c.ex, b, .int .i64 c.fr, .int .i64 c.ct, .int .i64 c.gr.r, .string c.gr.p, .bool c.gr.x, .int .i64 c.gr.u, .int .i64 c.id] rfl rfl 26 _ Tryz.underlying26 rfl (by kernel_rfl)
  generalize tokA c.tok a = T at *
  generalize cmdA c a b = C at *
  have hP := fun (v : Bool) (w9 : World) (e : Ext w w9) => @bigP_true w w9 (CmdSmall c 40 8192 ∧ TokSmall c.tok) e
  obtain ⟨P, hPP⟩ : ∃ P, BigP w (CmdSmall c 40 8192 ∧ TokSmall c.tok) = P := ⟨_, rfl⟩
  rw [hPP] at hP ⊢
  have HP := Lib.hid hPP
  clear hPP bx B1 h k hx
  go_enter Tryz.func9, Tryz.ntmps9
  go_upto_region 1 with fail
  rw [← hW]
  clear hW
  refine wp_region_lit ?_
  refine pl_y (v := ?_) (a' := ?_) rfl (by rfl) ?_ ?_ ?_
  rotate_left 2
  · (refine (run_op_load rfl ?_ (l0)).trans ?_; (· rfl); (· with_reducible rfl))
  · simp only [Act.put, List.setIfInBounds_toArray, List.set_cons_zero, List.set_cons_succ]; rfl
  refine pl_call (args := ?_) Tryz.func41 (by kernel_rfl) rfl (by rfl) rfl rfl ?_ ?_
  rotate_left 1
  · go_simp; with_reducible rfl
  (with_reducible refine (h1 W hE).mono ?_)
  rintro e w1 ⟨v1, rfl, hv1, hE1⟩
  refine ⟨_, _, rfl, (by simp only [Act.put, List.setIfInBounds_toArray, List.set_cons_zero, List.set_cons_succ]; rfl), ?_⟩
  iterate 1 (first | (refine pl_off (a' := ?_) rfl (by rfl) ?_ ?_; rotate_left 1; (· simp only [Act.put, List.setIfInBounds_toArray, List.set_cons_zero, List.set_cons_succ]; rfl)) | (refine pl_y (v := ?_) (a' := ?_) rfl (by rfl) ?_ ?_ ?_; rotate_left 2; (· go_simp; with_reducible rfl); (· simp only [Act.put, List.setIfInBounds_toArray, List.set_cons_zero, List.set_cons_succ]; rfl)))
  cases v1
  rotate_left 1
  · refine pl_deadQ 2 (.bool true) (by kernel_rfl) (fun a' h1 h2 h3 => ?_)
    go_wp2_with fail
    exact bodyPost_ret (v := .bool true) (by simp [results, Tryz.results9, h1, h2]) h3 (hP true _ (hE.trans hE1))
  iterate 1 (first | (refine pl_off (a' := ?_) rfl (by rfl) ?_ ?_; rotate_left 1; (· simp only [Act.put, List.setIfInBounds_toArray, List.set_cons_zero, List.set_cons_succ]; rfl)) | (refine pl_y (v := ?_) (a' := ?_) rfl (by rfl) ?_ ?_ ?_; rotate_left 2; (· go_simp; with_reducible rfl); (· simp only [Act.put, List.setIfInBounds_toArray, List.set_cons_zero, List.set_cons_succ]; rfl)))
  refine pl_y (v := ?_) (a' := ?_) rfl (by rfl) ?_ ?_ ?_
  rotate_left 2
  · (refine (run_op_load rfl ?_ ((l1 _ hE1))).trans ?_; (· rfl); (· with_reducible rfl))
  · simp only [Act.put, List.setIfInBounds_toArray, List.set_cons_zero, List.set_cons_succ]; rfl
  refine pl_call (args := ?_) Tryz.func42 (by kernel_rfl) rfl (by rfl) rfl rfl ?_ ?_
  rotate_left 1
  · go_simp; with_reducible rfl
  (with_reducible refine (h2 _ (hE.trans hE1)).mono ?_)
  rintro e w2 ⟨v2, rfl, hv2, hE2⟩
  refine ⟨_, _, rfl, (by simp only [Act.put, List.setIfInBounds_toArray, List.set_cons_zero, List.set_cons_succ]; rfl), ?_⟩
  have HV1 := Lib.hid (hv1 rfl)
  have HV2 := Lib.hid hv2
  clear hv1 hv2
  iterate 2 (first | (refine pl_off (a' := ?_) rfl (by rfl) ?_ ?_; rotate_left 1; (· simp only [Act.put, List.setIfInBounds_toArray, List.set_cons_zero, List.set_cons_succ]; rfl)) | (refine pl_y (v := ?_) (a' := ?_) rfl (by rfl) ?_ ?_ ?_; rotate_left 2; (· go_simp; with_reducible rfl); (· simp only [Act.put, List.setIfInBounds_toArray, List.set_cons_zero, List.set_cons_succ]; rfl)))
  refine wpList_nil ?_
  go_wp2_with fail
  rw [← HP.out]
  exact bigP_of (by simp) (fun h => ⟨HV1.out, HV2.out h⟩) (hE.trans (hE1.trans hE2))
end Go.Proofs.YtgfhbachgniipaaGreatDoor
