/- The greatest of three or four. (and what follows) -/
import Derived.Test.YtgfhbachgniipaaGreatDoorMz
import Derived.Test.YtgfhbachgniipaaGreatDoorM1
import Derived.Test.YtgfhbachgniipaaGreatDoorM7
import Derived.Test.YtgfhbachgniipaaGreatDoorM5
import Derived.Test.YtgfhbachgniipaaGreatDoorM8
import Derived.Test.YtgfhbachgniipaaGreatDoorM9
set_option linter.unusedVariables false
set_option linter.unusedSimpArgs false
namespace Go.Proofs.YtgfhbachgniipaaGreatDoor
open Go.RowKit
def mx3 (a b c : Int) : Int := max (max a b) c
def mx4 (a b c d : Int) : Int := max (max (max a b) c) d
theorem run_mx3 {P : Program} (ts : Array TypeId) (t : TypeId) (x y z : Int) (w : World) : (Builtin.max_ ts t #[.int .i64 x, .int .i64 y, .int .i64 z]).run P w = .ok (.int .i64 (mx3 x y z)) w := by
  simp only [Builtin.max_, Builtin.max2, List.foldlM_cons, List.foldlM_nil, mx3, Int.max_def]
  simp
  (repeat' split) <;> omega
theorem run_mx4 {P : Program} (ts : Array TypeId) (t : TypeId) (x y z v : Int) (w : World) : (Builtin.max_ ts t #[.int .i64 x, .int .i64 y, .int .i64 z, .int .i64 v]).run P w = .ok (.int .i64 (mx4 x y z v)) w := by
  simp only [Builtin.max_, Builtin.max2, List.foldlM_cons, List.foldlM_nil, mx4, Int.max_def]
  simp
  (repeat' split) <;> omega
theorem mx3_lt (a b c n : Int) : n < mx3 a b c ↔ n < a ∨ n < b ∨ n < c := by unfold mx3; omega
theorem mx4_lt (a b c d n : Int) : n < mx4 a b c d ↔ n < a ∨ n < b ∨ n < c ∨ n < d := by unfold mx4; omega
end Go.Proofs.YtgfhbachgniipaaGreatDoor

namespace Go.Proofs.YtgfhbachgniipaaGreatDoor
open Go.RowKit
theorem own_val' {w : World} {base : Nat} {e : TypeId} {size : Nat} {v : Value} {n : Nat} {xs : List Value} (h : w.ownsRow base e size v n xs) : ∃ A c, v = .slice A n c := by
  obtain ⟨_, ⟨rfl, rfl⟩ | ⟨g, cap, cur, rfl, _⟩⟩ := h
  · exact ⟨_, _, rfl⟩
  · exact ⟨_, _, rfl⟩
theorem own_excB {w w' : World} {base lo hi : Nat} {e : TypeId} {size : Nat} {v : Value} {n : Nat} {xs : List Value} (h : w.ownsRow base e size v n xs) (hX : Exc lo hi w w') (hb : hi ≤ base) : w'.ownsRow base e size v n xs := by
  obtain ⟨hl, h⟩ := h
  refine ⟨hl, h.imp id ?_⟩
  rintro ⟨g, cap, cur, h1, h2, h3, h4⟩
  exact ⟨g, cap, cur, h1, h2, (hX.block g (Array.getElem?_eq_some_iff.1 h3).1 (.inr (by omega))).trans h3, h4⟩
theorem sh_size (x : Shn) (b : Value) : (shA x b).size = 6 := rfl
set_option maxHeartbeats 1000000 in
set_option maxRecDepth 100000 in
theorem sameShownEl_any (w : World) (x : Shn) (a b : Value) (h : YsV w x.body a) (k : YsV w x.body b) (hn : x.body.length ≤ 9223372036854775807) :
    Calls Tryz.prog 133 #[.agg (shA x a), .agg (shA x b)] w fun e w' => e = .returned (.bool true) ∧ Ext w w' := by
  obtain ⟨A, c, rfl, hc, hS⟩ := h
  obtain ⟨A', c', rfl, hc', hS'⟩ := k
  have hsb := fun (w' : World) (h : Ext w w') => sameBytes_any w' A c x.body (hS.ext h) hc hn A' c' x.body (hS'.ext h) hc'
  simp only [beq_self_eq_true] at hsb
  obtain ⟨n, hln⟩ : ∃ n, x.body.length = n := ⟨_, rfl⟩
  rw [hln] at hsb ⊢
  obtain ⟨W, hW, hE, bx, cx⟩ := box2 w (shA x (.slice A n c)) (shA x (.slice A' n c')) 70 70
  have x0 : W.cell? ⟨w.heap.size, 0, none⟩ = some (.string x.st) := bx 0 _ rfl
  have xr0 := fun (w' : World) (h : Ext W w') => h.cellk x0
  clear x0
  have x1 : W.cell? ⟨w.heap.size, 1, none⟩ = some (.string x.su) := bx 1 _ rfl
  have xr1 := fun (w' : World) (h : Ext W w') => h.cellk x1
  clear x1
  have x2 : W.cell? ⟨w.heap.size, 2, none⟩ = some (.int .i64 x.ver) := bx 2 _ rfl
  have xr2 := fun (w' : World) (h : Ext W w') => h.cellk x2
  clear x2
  have x3 : W.cell? ⟨w.heap.size, 3, none⟩ = some (.int .i64 x.pos) := bx 3 _ rfl
  have xr3 := fun (w' : World) (h : Ext W w') => h.cellk x3
  clear x3
  have x4 : W.cell? ⟨w.heap.size, 4, none⟩ = some (.int .i64 x.code) := bx 4 _ rfl
  have xr4 := fun (w' : World) (h : Ext W w') => h.cellk x4
  clear x4
  have x5 : W.cell? ⟨w.heap.size, 5, none⟩ = some (.slice A n c) := bx 5 _ rfl
  have xr5 := fun (w' : World) (h : Ext W w') => h.cellk x5
  clear x5
  have y0 : W.cell? ⟨w.heap.size + 1, 0, none⟩ = some (.string x.st) := cx 0 _ rfl
  have yr0 := fun (w' : World) (h : Ext W w') => h.cellk y0
  clear y0
  have y1 : W.cell? ⟨w.heap.size + 1, 1, none⟩ = some (.string x.su) := cx 1 _ rfl
  have yr1 := fun (w' : World) (h : Ext W w') => h.cellk y1
  clear y1
  have y2 : W.cell? ⟨w.heap.size + 1, 2, none⟩ = some (.int .i64 x.ver) := cx 2 _ rfl
  have yr2 := fun (w' : World) (h : Ext W w') => h.cellk y2
  clear y2
  have y3 : W.cell? ⟨w.heap.size + 1, 3, none⟩ = some (.int .i64 x.pos) := cx 3 _ rfl
  have yr3 := fun (w' : World) (h : Ext W w') => h.cellk y3
  clear y3
  have y4 : W.cell? ⟨w.heap.size + 1, 4, none⟩ = some (.int .i64 x.code) := cx 4 _ rfl
  have yr4 := fun (w' : World) (h : Ext W w') => h.cellk y4
  clear y4
  have y5 : W.cell? ⟨w.heap.size + 1, 5, none⟩ = some (.slice A' n c') := cx 5 _ rfl
  have yr5 := fun (w' : World) (h : Ext W w') => h.cellk y5
  clear y5
  generalize shA x (.slice A n c) = C1 at *
  generalize shA x (.slice A' n c') = C2 at *
  clear bx cx hS hS' hln
  have hY := Ext.refl W
  go_enter Tryz.func133, Tryz.ntmps133
  go_upto_region 1 with fail
  rw [← hW]
  clear hW
  refine wp_region_lit ?_
  iterate 38 (first | (refine pl_off (a' := ?_) rfl (by rfl) ?_ ?_; rotate_left 1; (· simp only [Act.put, zzA, zz0, zzS]; rfl)) | (refine pl_y (v := ?_) (a' := ?_) rfl (by rfl) ?_ ?_ ?_; rotate_left 2; (· go_simp; with_reducible rfl); (· simp only [Act.put, zzA, zz0, zzS]; rfl)))
  refine pl_call (args := ?_) Tryz.func16 (by kernel_rfl) rfl (by rfl) rfl rfl ?_ ?_
  rotate_left 1
  · go_simp; with_reducible rfl
  (with_reducible refine (hsb W hE).mono ?_)
  rintro e w1 ⟨rfl, hY1⟩
  refine ⟨_, _, rfl, (by simp only [Act.put, zzA, zz0, zzS]; rfl), ?_⟩
  iterate 2 (first | (refine pl_off (a' := ?_) rfl (by rfl) ?_ ?_; rotate_left 1; (· simp only [Act.put, zzA, zz0, zzS]; rfl)) | (refine pl_y (v := ?_) (a' := ?_) rfl (by rfl) ?_ ?_ ?_; rotate_left 2; (· go_simp; with_reducible rfl); (· simp only [Act.put, zzA, zz0, zzS]; rfl)))
  refine wpList_nil ?_
  go_wp2_with fail
  go_ret
  exact ⟨rfl, hE.trans hY1⟩
set_option maxHeartbeats 1000000 in
set_option maxRecDepth 100000 in
theorem sameShown_any (w : World) (A : Option Addr) (c : Nat) (xs : List Shn) (hS : rdSh.Sl w A xs.length xs) (hc : xs.length ≤ c) (hn : xs.length ≤ 1000000) (hb : ∀ x ∈ xs, x.body.length ≤ 9223372036854775807) (A2 : Option Addr) (c2 : Nat) (hS2 : rdSh.Sl w A2 xs.length xs) (hc2 : xs.length ≤ c2) :
    Calls Tryz.prog 84 #[.slice A xs.length c, .slice A2 xs.length c2] w fun e w' => e = .returned (.bool true) ∧ Ext w w' := by
  obtain ⟨n, hxn⟩ : ∃ n, xs.length = n := ⟨_, rfl⟩
  rw [hxn] at hS hn hc hS2 hc2 ⊢
  go_enter Tryz.func84, Tryz.ntmps84
  go_wp2_with fail
  go_loopw [5] (fun i wr => ∃ k : Nat, k ≤ n ∧ i = .int .i64 k ∧ Ext w wr) (fun i _ => n - (intOf i).toNat)
  case atStart => exact ⟨0, by omega, rfl, Ext.refl _⟩
  case round =>
    obtain ⟨k, hkn, rfl, hwr⟩ := hrel
    by_cases hlt : k < n
    · obtain ⟨b, o, rfl⟩ := el_addr hS k hlt
      obtain ⟨b2, o2, rfl⟩ := el_addr hS2 k hlt
      obtain ⟨x, hx⟩ : ∃ x, xs[k]? = some x := ⟨_, List.getElem?_eq_getElem (by omega)⟩
      obtain ⟨cs, hK, rx⟩ := el_loadK (hS.ext hwr) k x hx 70 _ Tryz.underlying70 rfl (by kernel_rfl)
      obtain ⟨cs2, hK2, ry⟩ := el_loadK (hS2.ext hwr) k x hx 70 _ Tryz.underlying70 rfl (by kernel_rfl)
      simp only [show rdSh.sz = 6 from rfl] at rx ry
      have hbx := hb x (List.mem_of_getElem? hx)
      have hel := fun (w' : World) (e : Ext wr w') => (show Calls Tryz.prog 133 #[.agg cs.toArray, .agg cs2.toArray] w' fun e w'' => e = .returned (.bool true) ∧ Ext w' w'' by
        obtain ⟨v, rfl, hv⟩ := sh_cells hK
        obtain ⟨v2, rfl, hv2⟩ := sh_cells hK2
        exact sameShownEl_any w' x v v2 (hv.ext e) (hv2.ext e) hbx)
      have hY : Ext wr wr := Ext.refl wr
      generalize cs.toArray = C at rx hel
      generalize cs2.toArray = C2 at ry hel
      clear hS hS2 hK hK2 hx
      go_upto_region 6 with fail
      refine wp_region_noPanic ?_
      refine tr_start (.y 0 (.y 1 (.y 2 (.y 3 (.y 4 (.y 5 (.y 6 (.y 7 (.e 8 (.y 9 .nil)))))))))) (fun w' => Ext wr w') (by kernel_rfl) (by as_aux_lemma => kernel_rfl) (fun _ _ _ _ _ h => h) (by (repeat (first | assumption | exact Ext.refl _ | refine Ext.drew ?_ | refine Ext.alloc ?_ _ | refine Ext.drewN ?_ _ | refine Ext.trans ?_ (by assumption)))) ?_
      have e0 : Ext wr wr.drew := (Ext.refl _).drew
      generalize wr.drew = q0 at e0 ⊢
      have hY0 := hY.trans e0
      (first | (refine tr_off (a' := ?_) rfl rfl (by rfl) ?_ ?_; rotate_left 1; (· simp only [Act.put, zzA, zz0, zzS]; rfl)) | (refine tr_y (v := ?_) (a' := ?_) rfl rfl (by rfl) (fun w' hw' => ?_) ?_ ?_; rotate_left 2; (· go_simp; with_reducible rfl); (· simp only [Act.put, zzA, zz0, zzS]; rfl)))
      (first | (refine tr_off (a' := ?_) rfl rfl (by rfl) ?_ ?_; rotate_left 1; (· simp only [Act.put, zzA, zz0, zzS]; rfl)) | (refine tr_y (v := ?_) (a' := ?_) rfl rfl (by rfl) (fun w' hw' => ?_) ?_ ?_; rotate_left 2; (· go_simp; with_reducible rfl); (· simp only [Act.put, zzA, zz0, zzS]; rfl)))
      (first | (refine tr_off (a' := ?_) rfl rfl (by rfl) ?_ ?_; rotate_left 1; (· simp only [Act.put, zzA, zz0, zzS]; rfl)) | (refine tr_y (v := ?_) (a' := ?_) rfl rfl (by rfl) (fun w' hw' => ?_) ?_ ?_; rotate_left 2; (· go_simp; with_reducible rfl); (· simp only [Act.put, zzA, zz0, zzS]; rfl)))
      refine tr_y (v := ?_) (a' := ?_) rfl rfl (by rfl) (fun w' hw' => ?_) ?_ ?_
      rotate_left 2
      · (refine (run_op_load rfl ?_ (rx w' hw')).trans ?_; (· rfl); (· with_reducible rfl))
      · simp only [Act.put, zzA, zz0, zzS]; rfl
      (first | (refine tr_off (a' := ?_) rfl rfl (by rfl) ?_ ?_; rotate_left 1; (· simp only [Act.put, zzA, zz0, zzS]; rfl)) | (refine tr_y (v := ?_) (a' := ?_) rfl rfl (by rfl) (fun w' hw' => ?_) ?_ ?_; rotate_left 2; (· go_simp; with_reducible rfl); (· simp only [Act.put, zzA, zz0, zzS]; rfl)))
      (first | (refine tr_off (a' := ?_) rfl rfl (by rfl) ?_ ?_; rotate_left 1; (· simp only [Act.put, zzA, zz0, zzS]; rfl)) | (refine tr_y (v := ?_) (a' := ?_) rfl rfl (by rfl) (fun w' hw' => ?_) ?_ ?_; rotate_left 2; (· go_simp; with_reducible rfl); (· simp only [Act.put, zzA, zz0, zzS]; rfl)))
      (first | (refine tr_off (a' := ?_) rfl rfl (by rfl) ?_ ?_; rotate_left 1; (· simp only [Act.put, zzA, zz0, zzS]; rfl)) | (refine tr_y (v := ?_) (a' := ?_) rfl rfl (by rfl) (fun w' hw' => ?_) ?_ ?_; rotate_left 2; (· go_simp; with_reducible rfl); (· simp only [Act.put, zzA, zz0, zzS]; rfl)))
      refine tr_y (v := ?_) (a' := ?_) rfl rfl (by rfl) (fun w' hw' => ?_) ?_ ?_
      rotate_left 2
      · (refine (run_op_load rfl ?_ (ry w' hw')).trans ?_; (· rfl); (· with_reducible rfl))
      · simp only [Act.put, zzA, zz0, zzS]; rfl
      refine tr_call (args := ?_) rfl Tryz.func133 (by kernel_rfl) rfl (by rfl) rfl rfl ?_ ?_
      rotate_left 1
      · go_simp; rfl
      (with_reducible refine (hel _ hY0).mono ?_)
      rintro e q1 ⟨rfl, e1⟩
      have hY1 := hY0.trans e1
      refine ⟨_, _, rfl, hY1, (by simp only [Act.put, zzA, zz0, zzS]; rfl), ?_⟩
      (first | (refine tr_off (a' := ?_) rfl rfl (by rfl) ?_ ?_; rotate_left 1; (· simp only [Act.put, zzA, zz0, zzS]; rfl)) | (refine tr_y (v := ?_) (a' := ?_) rfl rfl (by rfl) (fun w' hw' => ?_) ?_ ?_; rotate_left 2; (· go_simp; with_reducible rfl); (· simp only [Act.put, zzA, zz0, zzS]; rfl)))
      refine tr_end ?_
      refine NoPanic.normal ?_
      go_wp2_with fail
      go_roundw
      case rel => exact ⟨k + 1, by omega, by go_num, hwr.trans hY1⟩
      case measure => simp [intOf]; omega
    · obtain rfl : k = n := by omega
      go_wp2_with fail
      go_ret
      exact ⟨rfl, hwr⟩
set_option maxHeartbeats 1000000 in
set_option maxRecDepth 100000 in
theorem copyShownEl_any (w : World) (x : Shn) (a : Value) (h : YsV w x.body a) (hn : x.body.length ≤ 4294967296) :
    Calls Tryz.prog 130 #[.agg (shA x a)] w fun e w' => ∃ v, e = .returned (.agg (shA x v)) ∧ w'.ownsRow w.heap.size 5 1 v x.body.length (x.body.flatMap encB) ∧ Ext w w' := by
  obtain ⟨A, c, rfl, hc, hS⟩ := h
  obtain ⟨n, hln⟩ : ∃ n, x.body.length = n := ⟨_, rfl⟩
  obtain ⟨W, hW, hE, bx, -⟩ := box2 w (shA x (.slice A n c)) #[.string ⟨#[]⟩, .string ⟨#[]⟩, .int .i64 0, .int .i64 0, .int .i64 0, .slice none 0 0] 70 70
  have B1 : Blk W w.heap.size 70 (shA x (.slice A n c)) := by rw [hW]; exact (Blk.new _ _ _).alloc _
  have B2 : Blk W (w.heap.size + 1) 70 #[.string ⟨#[]⟩, .string ⟨#[]⟩, .int .i64 0, .int .i64 0, .int .i64 0, .slice none 0 0] := by rw [hW]; have := Blk.new (w.alloc (.cells (shA x (.slice A n c)) 70)) 70 #[.string ⟨#[]⟩, .string ⟨#[]⟩, .int .i64 0, .int .i64 0, .int .i64 0, .slice none 0 0]; simpa using this
  have hcp := copyBytes_any W A c x.body (hS.ext hE) hc hn
  have x5 : W.cell? ⟨w.heap.size, 5, none⟩ = some (.slice A n c) := bx 5 _ rfl
  have hWs0 : W.heap.size = w.heap.size + 2 := by rw [hW]; simp
  rw [hln] at hcp ⊢
  have HW := Lib.hid hWs0
  clear bx hS hWs0 hln hc hn
  go_enter Tryz.func130, Tryz.ntmps130
  go_upto_region 1 with fail
  rw [← hW]
  clear hW
  go_wp2_with (first | (go_at_call 35; (with_reducible refine hcp.mono ?_); rintro e w1 ⟨v1, rfl, hown, hE1⟩; obtain ⟨A1, c1, rfl⟩ := own_val' hown; have D1 := B1.ext hE1; have f5 := D1.frozen 5; have c5 := D1.cell 5 (v := .slice A n c) rfl; have D2 := (B2.ext hE1).far (p := ⟨w.heap.size, 5, none⟩) (by simp) (.slice A1 n c1); have E1 : Blk (w1.setCell ⟨w.heap.size, 5, none⟩ (.slice A1 n c1)) w.heap.size 70 (shA x (.slice A1 n c1)) := D1.set_ 5 _; have hl := load_whole E1 70 _ Tryz.underlying70 rfl (by kernel_rfl); obtain ⟨w3, hr, B3, hX3⟩ := store_part D2 0 (shA x (.slice A1 n c1)) [] [.string ⟨#[]⟩, .string ⟨#[]⟩, .int .i64 0, .int .i64 0, .int .i64 0, .slice none 0 0] [] rfl rfl rfl 70 (by kernel_rfl) (one_shA _ _ rfl); clear hcp x5) | (refine wpList_load_by rfl rfl ?_ hl ?_; (· rfl)) | (refine wpList_store_by rfl rfl ?_ ?_ hr ?_; (· rfl); (· rfl)))
  have B3 : Blk w3 (w.heap.size + 1) 70 (shA x (.slice A1 n c1)) := by simpa using B3
  refine bodyPost_ret (v := .agg (shA x (.slice A1 n c1))) (results_cell_row (P := Tryz.prog) (fn := Tryz.f130) rfl _ w3 (w.heap.size + 1) _ _ _ _ rfl B3 Tryz.underlying70 rfl (by kernel_rfl)) rfl ?_
  have hX : Exc w.heap.size W.heap.size w1 w3 := by
    rw [HW.out]
    exact (Exc.setCell (lo := w.heap.size) (hi := w.heap.size + 2) (p := ⟨w.heap.size, 5, none⟩) (Nat.le_refl _) (by show w.heap.size < w.heap.size + 2; omega) _).trans (hX3.wide (by omega) (by omega))
  exact ⟨_, rfl, own_base (own_excB hown hX (Nat.le_refl _)) hE.le, (fin_own hE hE1 hX).1⟩
def shRows (l : List (Shn × Value)) : List Value := l.flatMap fun p => (shA p.1 p.2).toList
theorem own_onlyP {α β : Type} {d : Rd α} {f : β → Array Value} {g : β → α} (hf : ∀ x, (f x).size = d.sz) {lo hi lo' hi' base : Nat} {w wk : World} {e : TypeId} {v : Value} {l : List β} (hK : ∀ x ∈ l, d.K (only wk lo hi) (g x) (f x).toList)
    (hcl : ∀ b cs, lo' ≤ b → b < hi' → w.heap[b]? = some (.cells cs e (0, 0)) → ∀ i (v : Value), cs[i]? = some v → (only wk lo hi).cell? ⟨b, i, none⟩ = some v)
    (h : w.ownsRow base e d.sz v l.length (l.flatMap fun x => (f x).toList)) (hb : lo' ≤ base) (hh : w.heap.size ≤ hi') : ∃ A c, v = .slice A l.length c ∧ l.length ≤ c ∧ c ≤ maxLen ∧ d.Sl (only wk lo hi) A l.length (l.map g) := by
  have hf : ∀ x, ((fun x => (f x).toList) x).length = d.sz := fun x => by simp [hf x]
  obtain ⟨hl, ⟨rfl, hn⟩ | ⟨q, cap, cur, rfl, hbg, hc, hle, hm, hs, ht⟩⟩ := h
  · have hl0 : l = [] := List.eq_nil_of_length_eq_zero hn
    subst hl0
    exact ⟨none, 0, rfl, Nat.le_refl _, by decide, Rd.Sl.none d _ none⟩
  · have hg : q < hi' := Nat.lt_of_lt_of_le (Array.getElem?_eq_some_iff.1 hc).1 hh
    refine ⟨some ⟨q, 0, none⟩, cap, rfl, hle, hm, by simp, fun _ => ⟨q, 0, rfl, fun i hi' => ?_⟩⟩
    have hil : i < l.length := by simpa using hi'
    refine ⟨(f l[i]).toList, by simpa using hK _ (List.getElem_mem hil), fun j u hu => ?_⟩
    have hj : j < d.sz := by
      have h1 := (List.getElem?_eq_some_iff.1 hu).1
      have h2 := hf l[i]
      simp only at h2
      omega
    have hlt : i * d.sz + j < l.length * d.sz := by
      have := Nat.mul_le_mul_right d.sz (show i + 1 ≤ l.length by omega)
      rw [Nat.add_mul] at this; omega
    rw [← flat_get hf l i j hil hj, ← ht, List.getElem?_take_of_lt hlt] at hu
    rw [show 0 + i * d.sz + j = i * d.sz + j by omega]
    exact hcl q cur (Nat.le_trans hb hbg) hg hc _ _ (by simpa using hu)
theorem elt_Shown : Elt Tryz.prog 43 70 6 80 := Elt.mk' (z := .agg #[.string ⟨#[]⟩, .string ⟨#[]⟩, .int .i64 0, .int .i64 0, .int .i64 0, .slice none 0 0]) Tryz.underlying43 (by kernel_rfl) rfl (by decide)
theorem zip_snoc {α β : Type} : ∀ (l : List α) (us : List β) (u : β) (x : α), l[us.length]? = some x → l.zip (us ++ [u]) = l.zip us ++ [(x, u)]
  | [], us, u, x, h => by simp at h
  | y :: l, [], u, x, h => by simp at h; subst h; simp
  | y :: l, v :: us, u, x, h => by
    simp only [List.cons_append, List.zip_cons_cons, List.cons.injEq, true_and]
    exact zip_snoc l us u x (by simpa using h)
set_option maxHeartbeats 1000000 in
set_option maxRecDepth 100000 in
theorem copyShown_any (w : World) (A : Option Addr) (c : Nat) (l : List Shn) (hS : rdSh.Sl w A l.length l) (hc : l.length ≤ c) (hn : l.length ≤ 1000000) (hx : ∀ x ∈ l, x.body.length ≤ 4294967296) :
    Calls Tryz.prog 71 #[.slice A l.length c] w fun e w' => ∃ v, e = .returned v ∧ HsV (only w' w.heap.size w'.heap.size) l v ∧ Ext w w' := by
  obtain ⟨n, hln⟩ : ∃ n, l.length = n := ⟨_, rfl⟩
  obtain ⟨P, hP⟩ : ∃ P : Ending → World → Prop, (fun e w' => ∃ v, e = .returned v ∧ HsV (only w' w.heap.size w'.heap.size) l v ∧ Ext w w') = P := ⟨_, rfl⟩
  rw [hP]
  rw [hln] at hS hc hn ⊢
  have HP := Lib.hid hP
  have HL := Lib.hid hln
  clear hP hln
  go_enter Tryz.func71, Tryz.ntmps71
  go_wp2_with fail
  go_loopw [3, 4] (fun s3 i wr => ∃ (k : Nat) (us : List Value), k ≤ n ∧ i = .int .i64 k ∧ us.length = k ∧ wr.ownsRow w.heap.size 70 6 s3 k (shRows (l.zip us)) ∧ (∀ p ∈ l.zip us, wr.ownsRow w.heap.size 5 1 p.2 p.1.body.length (p.1.body.flatMap encB)) ∧ Ext w wr) (fun _ i _ => n - (intOf i).toNat)
  case atStart => exact ⟨0, [], by omega, rfl, rfl, (by simpa [shRows] using World.ownsRow_nil _ _ _ _), (fun p hp => by simp at hp), Ext.refl _⟩
  case round =>
    obtain ⟨k, us, hkn, rfl, hul, hown, hel, hwr⟩ := hrel
    by_cases hlt : k < n
    · obtain ⟨b, o, rfl⟩ := el_addr hS k hlt
      obtain ⟨x, hxe⟩ : ∃ x, l[k]? = some x := ⟨_, List.getElem?_eq_getElem (by rw [HL.out]; omega)⟩
      obtain ⟨cs, hK, rx⟩ := el_loadK (hS.ext hwr) k x hxe 70 _ Tryz.underlying70 rfl (by kernel_rfl)
      simp only [show rdSh.sz = 6 from rfl] at rx
      have hcp := fun (w' : World) (e : Ext wr w') => (show Calls Tryz.prog 130 #[.agg cs.toArray] w' fun e w'' => ∃ v, e = .returned (.agg (shA x v)) ∧ w''.ownsRow w'.heap.size 5 1 v x.body.length (x.body.flatMap encB) ∧ Ext w' w'' by
        obtain ⟨v, rfl, hv⟩ := sh_cells hK
        exact copyShownEl_any w' x v (hv.ext e) (hx x (List.mem_of_getElem? hxe)))
      have hzs := fun u => zip_snoc l us u x (by rw [hul]; exact hxe)
      have HZ := Lib.hid hzs
      have HU := Lib.hid hul
      have rx := rx _ (Ext.refl _)
      generalize cs.toArray = C at rx hcp
      have hcp := hcp wr (Ext.refl _)
      have hel' := hel
      clear hS hK hxe hzs hul hel
      go_wp2_with (first | (refine wpList_load_by rfl rfl ?_ rx ?_; (· rfl)) | (go_at_call 130; (with_reducible refine hcp.mono ?_); rintro e w1 ⟨v1, rfl, hown1, hE1⟩; have hown1 := own_base hown1 hwr.le; obtain ⟨A2, c2, rfl⟩ := own_val' hown1; have hown0 := own_ext hown hE1; have hfo := fold_all (Z := #[.string ⟨#[]⟩, .string ⟨#[]⟩, .int .i64 0, .int .i64 0, .int .i64 0, .slice none 0 0]) (C := shA x (.slice A2 x.body.length c2)) (n := 6) (by decide) rfl rfl; have h1 : ∀ u ∈ (shA x (.slice A2 x.body.length c2)).toList, u.oneCell' = true := fun u hu => Array.all_eq_true_iff_forall_mem.1 (one_shA x (.slice A2 x.body.length c2) rfl) u (by simpa using hu); have hsz := sh_size x (.slice A2 x.body.length c2); generalize hCC : shA x (.slice A2 x.body.length c2) = C2 at *; have HC := Lib.hid hCC; clear hCC hcp) | (at_builtin; refine wpList_append_cells (news := C2.toList) rfl elt_Shown (.tmp 11) (.tmp 17) rfl (hown0.alloc _) rfl rfl ?c0 ?c1 ?c2 ?c3 ?c4 ?_))
      case c0 => exact ⟨by simp [hsz], (fun h => by cases h), fun ad h j u hu => (by cases h; exact new_cells w1 _ C2 j u hu)⟩
      case c1 => exact h1
      case c2 => unfold maxLen; omega
      case c3 => omega
      case c4 => have := hwr.le; have := hE1.le; simp; omega
      intro v' w3 hown' hgrow
      have hE := grown_ext2 ((hwr.trans hE1).alloc (.cells C2 70)) (hown0.alloc _) hgrow (Nat.le_refl _)
      have hkeep : ∀ (u : Value) (m : Nat) (cs : List Value), w1.ownsRow w.heap.size 5 1 u m cs → w3.ownsRow w.heap.size 5 1 u m cs := fun u m cs h =>
        (h.alloc _).kept hgrow (own_ne (h.alloc (.cells C2 70)) (hown0.alloc _) (by decide))
      have hrow : Hid (w3.ownsRow w.heap.size 70 6 v' (k + 1) (shRows (l.zip (us ++ [Value.slice A2 x.body.length c2])))) := Lib.hid (by
        rw [HZ.out]
        unfold shRows at hown' ⊢
        rw [List.flatMap_append]
        simpa [HC.out] using hown')
      have hrel : ∀ p ∈ l.zip (us ++ [Value.slice A2 x.body.length c2]), w3.ownsRow w.heap.size 5 1 p.2 p.1.body.length (p.1.body.flatMap encB) := fun p hp => by
        rw [HZ.out] at hp
        rcases List.mem_append.1 hp with hp | hp
        · exact hkeep _ _ _ (own_ext (hel' p hp) hE1)
        · obtain rfl : p = (x, Value.slice A2 x.body.length c2) := by simpa using hp
          exact hkeep _ _ _ hown1
      have HU2 : (us ++ [Value.slice A2 x.body.length c2]).length = k + 1 := by rw [List.length_append, HU.out]; rfl
      have HREL := Lib.hid hrel
      have HUU := Lib.hid HU2
      clear hown hgrow hown0 hkeep hel' hown1 hown' rx h1 hfo hsz hrel HU2
      go_wp2_with fail
      go_roundw
      case rel => exact ⟨k + 1, _, by omega, by go_num, HUU.out, hrow.out, HREL.out, hE⟩
      case measure => simp [intOf]; omega
    · obtain rfl : k = n := by omega
      have hzl : (l.zip us).length = k := by simp [hul, HL.out]
      have hfst : (l.zip us).map Prod.fst = l := by rw [List.map_fst_zip (by rw [hul, HL.out]; exact Nat.le_refl _)]
      obtain ⟨A', c', hv', hc', -, hS'⟩ := own_onlyP (d := rdSh) (f := fun p : Shn × Value => shA p.1 p.2) (g := Prod.fst) (fun _ => rfl) (lo := w.heap.size) (hi := wr.heap.size) (lo' := w.heap.size) (hi' := wr.heap.size) (w := wr) (wk := wr) (l := l.zip us) (fun p hp => by
        obtain ⟨A3, c3, e3, b1, _, b2⟩ := own_bytes (hel p hp) (Nat.le_refl _) (Nat.le_refl _)
        exact sh_K ⟨A3, c3, e3, b1, b2⟩) (fun b cs h1 h2 hh i v hv => cell_only hh h1 h2 hv) (by rw [hzl]; exact hown) (Nat.le_refl _) (Nat.le_refl _)
      rw [hfst] at hS'
      rw [hzl] at hv' hc' hS'
      subst hv'
      have HS := Lib.hid hS'
      clear hown hel hul hzl hfst hS' hS
      go_wp2_with fail
      rw [← HP.out]
      exact ⟨.slice A' k c', rfl, ⟨A', c', by rw [HL.out], by rw [HL.out]; exact hc', by rw [HL.out]; exact HS.out⟩, hwr⟩
end Go.Proofs.YtgfhbachgniipaaGreatDoor

namespace Go.Proofs.YtgfhbachgniipaaGreatDoor
open Go.RowKit
theorem RowsAt.there {lo hi : Nat} {w w' : World} {A : Option Addr} {n sz : Nat} (h : RowsAt w lo hi A n sz) (k : There lo hi w w') : RowsAt w' lo hi A n sz := fun i hi => by
  obtain ⟨b, o, e, hc⟩ := h i hi
  exact ⟨b, o, e, fun j hj => by obtain ⟨v, hv⟩ := hc j hj; exact k _ _ hv⟩
def shZ (x : Shn) : Array Value := shA x (.slice none 0 0)
theorem one_shZ (x : Shn) : ∀ u ∈ (shZ x).toList, u.oneCell' = true := fun u hu => Array.all_eq_true_iff_forall_mem.1 (one_shA x (.slice none 0 0) rfl) u (by simpa [shZ] using hu)
def markH (k : Nat) : Shn := ⟨⟨#[]⟩, ⟨#[]⟩, 0, -9 - k, 0, []⟩
set_option maxHeartbeats 1000000 in
set_option maxRecDepth 100000 in
theorem markShown_any (k : Nat) (hk : k ≤ 8589934592) (w : World) : Calls Tryz.prog 144 #[.int .i64 k] w fun e w' => e = .returned (.agg (shZ (markH k))) ∧ Ext w w' := by
  have hw : IntKind.i64.wrap (-9 - (k : Int)) = -9 - (k : Int) := by rw [IntKind.wrap_i64]; omega
  have hw2 : wrap64 (-9 - (k : Int)) = -9 - (k : Int) := IntWalk.wrap64_in _ ⟨by omega, by omega⟩
  go_enter Tryz.func144, Tryz.ntmps144
  go_wp2_with fail
  exact bodyPost_ret (v := .agg #[.string ⟨#[]⟩, .string ⟨#[]⟩, .int .i64 0, .int .i64 (-9 - k), .int .i64 0, .slice none 0 0]) (by simp [results, Tryz.results144, go_sem]) rfl ⟨rfl, by (repeat (first | assumption | exact Ext.refl _ | refine Ext.drew ?_ | refine Ext.alloc ?_ _ | refine Ext.drewN ?_ _ | refine Ext.trans ?_ (by assumption)))⟩
set_option maxHeartbeats 1000000 in
set_option maxRecDepth 100000 in
theorem spoilTShown_any (w : World) (lo hi : Nat) (hh : hi ≤ w.heap.size) (A : Option Addr) (n c : Nat) (hS : RowsAt w lo hi A n 6) (hc : n ≤ c) (hn : n ≤ 4294967296) :
    Calls Tryz.prog 111 #[.slice A n c] w fun e w' => e = .returned (.tuple #[]) ∧ Exc lo hi w w' ∧ There lo hi w w' := by
  go_enter Tryz.func111, Tryz.ntmps111
  go_wp2_with fail
  go_loopw [2] (fun i wr => ∃ k : Nat, k ≤ n ∧ i = .int .i64 k ∧ Exc lo hi w wr ∧ There lo hi w wr) (fun i _ => n - (intOf i).toNat)
  case atStart => exact ⟨0, by omega, rfl, Exc.refl _ _ _, There.refl _ _ _⟩
  case round =>
    obtain ⟨k, hkn, rfl, hwr, hT⟩ := hrel
    by_cases hlt : k < n
    · obtain ⟨b, o, rfl, x0⟩ := hS k hlt
      have hhr : hi ≤ wr.heap.size := Nat.le_trans hh hwr.size
      have hst : ∀ w2, Ext wr w2 → ∀ C : Array Value, C.size = 6 → C.all (·.oneCell') = true → (Instr.storeAt 70 (.pointer (some ⟨b, o + k * 6, none⟩)) (.agg C)).run Tryz.prog w2 = .ok () (w2.setCells b (o + k * 6) C.toList) := fun w2 hE C hC h1 => by
        refine run_storeAt_mid w2 b (o + k * 6) 70 C (fun j hj => ?_) (by rw [hC]; kernel_rfl) h1
        obtain ⟨v, hv⟩ := x0 j (by omega)
        obtain ⟨v2, hv2⟩ := (hT.trans (There.ext hE hhr)) _ _ hv
        obtain ⟨_, _, hy, hf2, -⟩ := only_cell hv2
        exact ⟨by rw [hy]; rfl, hf2⟩
      obtain ⟨v0, hv0⟩ := x0 0 (by decide)
      obtain ⟨hl1, hl2, -⟩ := only_cell hv0
      have hl1 : lo ≤ b := hl1
      have hl2 : b < hi := hl2
      have hsz : (shZ (markH (k + 7))).size = 6 := rfl
      have h1 := all_oneCell_toArray (one_shZ (markH (k + 7)))
      simp only [Array.toArray_toList] at h1
      have hmk := fun (w' : World) => markShown_any (k + 7) (by omega) w'
      rw [show (((k + 7 : Nat)) : Int) = (k : Int) + 7 by omega] at hmk
      generalize shZ (markH (k + 7)) = C at hsz h1 hmk
      clear hS x0
      go_wp2_with (first | (go_at_call 144; (with_reducible refine (hmk _).mono ?_); rintro e w2 ⟨rfl, hE⟩) | (refine wpList_store_by rfl rfl ?_ ?_ (hst _ hE C hsz h1) ?_; (· rfl); (· rfl)))
      go_roundw
      case rel => exact ⟨k + 1, by omega, by go_num, (hwr.trans (Ext.exc hE)).trans ((setCells_exc _ _ _).wide hl1 hl2), (hT.trans (There.ext hE hhr)).trans (There.setCells _ _ _ _ (There.refl _ _ _))⟩
      case measure => simp [intOf]; omega
    · obtain rfl : k = n := by omega
      go_wp2_with fail
      go_end0
      exact ⟨rfl, hwr, hT⟩
set_option maxHeartbeats 1000000 in
set_option maxRecDepth 100000 in
theorem spoilTGrants_any (w : World) (lo hi : Nat) (hh : hi ≤ w.heap.size) (A : Option Addr) (n c : Nat) (hS : RowsAt w lo hi A n 4) (hc : n ≤ c) (hn : n ≤ 4294967296) :
    Calls Tryz.prog 109 #[.slice A n c] w fun e w' => e = .returned (.tuple #[]) ∧ Exc lo hi w w' ∧ There lo hi w w' := by
  go_enter Tryz.func109, Tryz.ntmps109
  go_wp2_with fail
  go_loopw [2] (fun i wr => ∃ k : Nat, k ≤ n ∧ i = .int .i64 k ∧ Exc lo hi w wr ∧ There lo hi w wr) (fun i _ => n - (intOf i).toNat)
  case atStart => exact ⟨0, by omega, rfl, Exc.refl _ _ _, There.refl _ _ _⟩
  case round =>
    obtain ⟨k, hkn, rfl, hwr, hT⟩ := hrel
    by_cases hlt : k < n
    · obtain ⟨b, o, rfl, x0⟩ := hS k hlt
      have hhr : hi ≤ wr.heap.size := Nat.le_trans hh hwr.size
      have hst : ∀ w2, Ext wr w2 → ∀ C : Array Value, C.size = 4 → C.all (·.oneCell') = true → (Instr.storeAt 29 (.pointer (some ⟨b, o + k * 4, none⟩)) (.agg C)).run Tryz.prog w2 = .ok () (w2.setCells b (o + k * 4) C.toList) := fun w2 hE C hC h1 => by
        refine run_storeAt_mid w2 b (o + k * 4) 29 C (fun j hj => ?_) (by rw [hC]; kernel_rfl) h1
        obtain ⟨v, hv⟩ := x0 j (by omega)
        obtain ⟨v2, hv2⟩ := (hT.trans (There.ext hE hhr)) _ _ hv
        obtain ⟨_, _, hy, hf2, -⟩ := only_cell hv2
        exact ⟨by rw [hy]; rfl, hf2⟩
      obtain ⟨v0, hv0⟩ := x0 0 (by decide)
      obtain ⟨hl1, hl2, -⟩ := only_cell hv0
      have hl1 : lo ≤ b := hl1
      have hl2 : b < hi := hl2
      have hsz : (grA (markG (k + 7))).size = 4 := rfl
      have h1 := all_oneCell_toArray (one_gr (markG (k + 7)))
      simp only [Array.toArray_toList] at h1
      have hmk := fun (w' : World) => markGrants_any (k + 7) (by omega) w'
      rw [show (((k + 7 : Nat)) : Int) = (k : Int) + 7 by omega] at hmk
      generalize grA (markG (k + 7)) = C at hsz h1 hmk
      clear hS x0
      go_wp2_with (first | (go_at_call 142; (with_reducible refine (hmk _).mono ?_); rintro e w2 ⟨rfl, hE⟩) | (refine wpList_store_by rfl rfl ?_ ?_ (hst _ hE C hsz h1) ?_; (· rfl); (· rfl)))
      go_roundw
      case rel => exact ⟨k + 1, by omega, by go_num, (hwr.trans (Ext.exc hE)).trans ((setCells_exc _ _ _).wide hl1 hl2), (hT.trans (There.ext hE hhr)).trans (There.setCells _ _ _ _ (There.refl _ _ _))⟩
      case measure => simp [intOf]; omega
    · obtain rfl : k = n := by omega
      go_wp2_with fail
      go_end0
      exact ⟨rfl, hwr, hT⟩
set_option maxHeartbeats 1000000 in
set_option maxRecDepth 100000 in
theorem spoilTEntries_any (w : World) (lo hi : Nat) (hh : hi ≤ w.heap.size) (A : Option Addr) (n c : Nat) (hS : RowsAt w lo hi A n 39) (hc : n ≤ c) (hn : n ≤ 4294967296) :
    Calls Tryz.prog 112 #[.slice A n c] w fun e w' => e = .returned (.tuple #[]) ∧ Exc lo hi w w' ∧ There lo hi w w' := by
  go_enter Tryz.func112, Tryz.ntmps112
  go_wp2_with fail
  go_loopw [2] (fun i wr => ∃ k : Nat, k ≤ n ∧ i = .int .i64 k ∧ Exc lo hi w wr ∧ There lo hi w wr) (fun i _ => n - (intOf i).toNat)
  case atStart => exact ⟨0, by omega, rfl, Exc.refl _ _ _, There.refl _ _ _⟩
  case round =>
    obtain ⟨k, hkn, rfl, hwr, hT⟩ := hrel
    by_cases hlt : k < n
    · obtain ⟨b, o, rfl, x0⟩ := hS k hlt
      have hhr : hi ≤ wr.heap.size := Nat.le_trans hh hwr.size
      have hst : ∀ w2, Ext wr w2 → ∀ C : Array Value, C.size = 39 → C.all (·.oneCell') = true → (Instr.storeAt 72 (.pointer (some ⟨b, o + k * 39, none⟩)) (.agg C)).run Tryz.prog w2 = .ok () (w2.setCells b (o + k * 39) C.toList) := fun w2 hE C hC h1 => by
        refine run_storeAt_mid w2 b (o + k * 39) 72 C (fun j hj => ?_) (by rw [hC]; kernel_rfl) h1
        obtain ⟨v, hv⟩ := x0 j (by omega)
        obtain ⟨v2, hv2⟩ := (hT.trans (There.ext hE hhr)) _ _ hv
        obtain ⟨_, _, hy, hf2, -⟩ := only_cell hv2
        exact ⟨by rw [hy]; rfl, hf2⟩
      obtain ⟨v0, hv0⟩ := x0 0 (by decide)
      obtain ⟨hl1, hl2, -⟩ := only_cell hv0
      have hl1 : lo ≤ b := hl1
      have hl2 : b < hi := hl2
      have hsz : (enA (markE (k + 7))).size = 39 := rfl
      have h1 := all_oneCell_toArray (one_en (markE (k + 7)))
      simp only [Array.toArray_toList] at h1
      have hmk := fun (w' : World) => markEntries_any (k + 7) (by omega) w'
      rw [show (((k + 7 : Nat)) : Int) = (k : Int) + 7 by omega] at hmk
      generalize enA (markE (k + 7)) = C at hsz h1 hmk
      clear hS x0
      go_wp2_with (first | (go_at_call 145; (with_reducible refine (hmk _).mono ?_); rintro e w2 ⟨rfl, hE⟩) | (refine wpList_store_by rfl rfl ?_ ?_ (hst _ hE C hsz h1) ?_; (· rfl); (· rfl)))
      go_roundw
      case rel => exact ⟨k + 1, by omega, by go_num, (hwr.trans (Ext.exc hE)).trans ((setCells_exc _ _ _).wide hl1 hl2), (hT.trans (There.ext hE hhr)).trans (There.setCells _ _ _ _ (There.refl _ _ _))⟩
      case measure => simp [intOf]; omega
    · obtain rfl : k = n := by omega
      go_wp2_with fail
      go_end0
      exact ⟨rfl, hwr, hT⟩
set_option maxHeartbeats 9000000 in
set_option maxRecDepth 100000 in
theorem sameAnswer_any (w : World) (x : Ans) (s a e s' a' e' : Value) (hH : HsV w x.shown s) (hG : GsV w x.tok.gs a) (hN : EsV w x.ents e) (hH' : HsV w x.shown s') (hG' : GsV w x.tok.gs a') (hN' : EsV w x.ents e') (hl : AnsLen x) :
    Calls Tryz.prog 25 #[.agg (ansA x s a e), .agg (ansA x s' a' e')] w fun e w' => e = .returned (.bool true) ∧ Ext w w' := by
  have hst := fun (w' : World) (h : Ext w w') => sameToken_any w' x.tok a a' (hG.ext h) (hG'.ext h) hl.n
  obtain ⟨A1, c1, rfl, h1c, h1S⟩ := hH
  obtain ⟨A2, c2, rfl, h2c, h2S⟩ := hN
  obtain ⟨A3, c3, rfl, h3c, h3S⟩ := hH'
  obtain ⟨A4, c4, rfl, h4c, h4S⟩ := hN'
  have hss := fun (w' : World) (h : Ext w w') => sameShown_any w' A1 c1 x.shown (h1S.ext h) h1c hl.h hl.b A3 c3 (h3S.ext h) h3c
  have hse := fun (w' : World) (h : Ext w w') => sameEntries_any w' A2 c2 x.ents (h2S.ext h) h2c hl.e A4 c4 (h4S.ext h) h4c
  obtain ⟨m, hm⟩ : ∃ m, x.shown.length = m := ⟨_, rfl⟩
  obtain ⟨n, hn⟩ : ∃ n, x.ents.length = n := ⟨_, rfl⟩
  rw [hm] at hss ⊢
  rw [hn] at hse ⊢
  obtain ⟨W, hW, hE, bx, cx⟩ := box2 w (ansA x (.slice A1 m c1) a (.slice A2 n c2)) (ansA x (.slice A3 m c3) a' (.slice A4 n c4)) 46 46
  have B1 : Blk W w.heap.size 46 (ansA x (.slice A1 m c1) a (.slice A2 n c2)) := by rw [hW]; exact (Blk.new _ _ _).alloc _
  have B2 : Blk W (w.heap.size + 1) 46 (ansA x (.slice A3 m c3) a' (.slice A4 n c4)) := by rw [hW]; have := Blk.new (w.alloc (.cells (ansA x (.slice A1 m c1) a (.slice A2 n c2)) 46)) 46 (ansA x (.slice A3 m c3) a' (.slice A4 n c4)); simpa using this
  have x0 : W.cell? ⟨w.heap.size, 0, none⟩ = some (.int .i64 x.code) := bx 0 _ rfl
  have xr0 := fun (w' : World) (h : Ext W w') => h.cellk x0
  clear x0
  have x1 : W.cell? ⟨w.heap.size, 1, none⟩ = some (.int .i64 x.num) := bx 1 _ rfl
  have xr1 := fun (w' : World) (h : Ext W w') => h.cellk x1
  clear x1
  have x2 : W.cell? ⟨w.heap.size, 2, none⟩ = some (.slice A1 m c1) := bx 2 _ rfl
  have xr2 := fun (w' : World) (h : Ext W w') => h.cellk x2
  clear x2
  have x38 : W.cell? ⟨w.heap.size, 38, none⟩ = some (.slice A2 n c2) := bx 38 _ rfl
  have xr38 := fun (w' : World) (h : Ext W w') => h.cellk x38
  clear x38
  have y0 : W.cell? ⟨w.heap.size + 1, 0, none⟩ = some (.int .i64 x.code) := cx 0 _ rfl
  have yr0 := fun (w' : World) (h : Ext W w') => h.cellk y0
  clear y0
  have y1 : W.cell? ⟨w.heap.size + 1, 1, none⟩ = some (.int .i64 x.num) := cx 1 _ rfl
  have yr1 := fun (w' : World) (h : Ext W w') => h.cellk y1
  clear y1
  have y2 : W.cell? ⟨w.heap.size + 1, 2, none⟩ = some (.slice A3 m c3) := cx 2 _ rfl
  have yr2 := fun (w' : World) (h : Ext W w') => h.cellk y2
  clear y2
  have y38 : W.cell? ⟨w.heap.size + 1, 38, none⟩ = some (.slice A4 n c4) := cx 38 _ rfl
  have yr38 := fun (w' : World) (h : Ext W w') => h.cellk y38
  clear y38
  have u := fun (w' : World) (h : Ext W w') => load_part (B1.ext h) 3 (tokA x.tok a) [.int .i64 x.code, .int .i64 x.num, .slice A1 m c1] [.slice A2 n c2] rfl rfl 26 _ Tryz.underlying26 rfl (by kernel_rfl)
  have v := fun (w' : World) (h : Ext W w') => load_part (B2.ext h) 3 (tokA x.tok a') [.int .i64 x.code, .int .i64 x.num, .slice A3 m c3] [.slice A4 n c4] rfl rfl 26 _ Tryz.underlying26 rfl (by kernel_rfl)
  generalize tokA x.tok a = T1 at *
  generalize tokA x.tok a' = T2 at *
  generalize ansA x (.slice A1 m c1) a (.slice A2 n c2) = C1 at *
  generalize ansA x (.slice A3 m c3) a' (.slice A4 n c4) = C2 at *
  clear bx cx B1 B2 h1S h2S h3S h4S hG hG' hm hn hl
  have hY := Ext.refl W
  go_enter Tryz.func25, Tryz.ntmps25
  go_upto_region 1 with fail
  rw [← hW]
  clear hW
  refine wp_region_lit ?_
  iterate 17 (first | (refine pl_off (a' := ?_) rfl (by rfl) ?_ ?_; rotate_left 1; (· simp only [Act.put, zzA, zz0, zzS]; rfl)) | (refine pl_y (v := ?_) (a' := ?_) rfl (by rfl) ?_ ?_ ?_; rotate_left 2; (· go_simp; with_reducible rfl); (· simp only [Act.put, zzA, zz0, zzS]; rfl)))
  refine pl_call (args := ?_) Tryz.func84 (by kernel_rfl) rfl (by rfl) rfl rfl ?_ ?_
  rotate_left 1
  · go_simp; with_reducible rfl
  (with_reducible refine (hss W hE).mono ?_)
  rintro e w1 ⟨rfl, hY1⟩
  refine ⟨_, _, rfl, (by simp only [Act.put, zzA, zz0, zzS]; rfl), ?_⟩
  iterate 3 (first | (refine pl_off (a' := ?_) rfl (by rfl) ?_ ?_; rotate_left 1; (· simp only [Act.put, zzA, zz0, zzS]; rfl)) | (refine pl_y (v := ?_) (a' := ?_) rfl (by rfl) ?_ ?_ ?_; rotate_left 2; (· go_simp; with_reducible rfl); (· simp only [Act.put, zzA, zz0, zzS]; rfl)))
  refine pl_y (v := ?_) (a' := ?_) rfl (by rfl) ?_ ?_ ?_
  rotate_left 2
  · (refine (run_op_load rfl ?_ ((u _ hY1))).trans ?_; (· rfl); (· with_reducible rfl))
  · simp only [Act.put, zzA, zz0, zzS]; rfl
  iterate 1 (first | (refine pl_off (a' := ?_) rfl (by rfl) ?_ ?_; rotate_left 1; (· simp only [Act.put, zzA, zz0, zzS]; rfl)) | (refine pl_y (v := ?_) (a' := ?_) rfl (by rfl) ?_ ?_ ?_; rotate_left 2; (· go_simp; with_reducible rfl); (· simp only [Act.put, zzA, zz0, zzS]; rfl)))
  refine pl_y (v := ?_) (a' := ?_) rfl (by rfl) ?_ ?_ ?_
  rotate_left 2
  · (refine (run_op_load rfl ?_ ((v _ hY1))).trans ?_; (· rfl); (· with_reducible rfl))
  · simp only [Act.put, zzA, zz0, zzS]; rfl
  refine pl_call (args := ?_) Tryz.func69 (by kernel_rfl) rfl (by rfl) rfl rfl ?_ ?_
  rotate_left 1
  · go_simp; with_reducible rfl
  (with_reducible refine (hst _ (hE.trans hY1)).mono ?_)
  rintro e w2 ⟨rfl, hY2⟩
  refine ⟨_, _, rfl, (by simp only [Act.put, zzA, zz0, zzS]; rfl), ?_⟩
  have hY3 := hY1.trans hY2
  iterate 6 (first | (refine pl_off (a' := ?_) rfl (by rfl) ?_ ?_; rotate_left 1; (· simp only [Act.put, zzA, zz0, zzS]; rfl)) | (refine pl_y (v := ?_) (a' := ?_) rfl (by rfl) ?_ ?_ ?_; rotate_left 2; (· go_simp; with_reducible rfl); (· simp only [Act.put, zzA, zz0, zzS]; rfl)))
  refine pl_call (args := ?_) Tryz.func85 (by kernel_rfl) rfl (by rfl) rfl rfl ?_ ?_
  rotate_left 1
  · go_simp; with_reducible rfl
  (with_reducible refine (hse _ (hE.trans hY3)).mono ?_)
  rintro e w3 ⟨rfl, hY4⟩
  refine ⟨_, _, rfl, (by simp only [Act.put, zzA, zz0, zzS]; rfl), ?_⟩
  iterate 2 (first | (refine pl_off (a' := ?_) rfl (by rfl) ?_ ?_; rotate_left 1; (· simp only [Act.put, zzA, zz0, zzS]; rfl)) | (refine pl_y (v := ?_) (a' := ?_) rfl (by rfl) ?_ ?_ ?_; rotate_left 2; (· go_simp; with_reducible rfl); (· simp only [Act.put, zzA, zz0, zzS]; rfl)))
  refine wpList_nil ?_
  go_wp2_with fail
  go_ret
  exact ⟨rfl, (hE.trans hY3).trans hY4⟩
theorem one_ansT (x : Ans) (s a e : Value) (h : s.oneCell' = true) (h' : a.oneCell' = true) (h'' : e.oneCell' = true) : (ansA x s a e).all (·.oneCell') = true := by simp [ansA, mb, oc_int, oc_str, h, h', h'']
theorem fin_own2 {w w2 w3 w9 : World} (hs : w.heap.size + 2 ≤ w2.heap.size) (hX : Exc w.heap.size (w.heap.size + 2) w3 w9) : Cle (only w3 w2.heap.size w3.heap.size) (only w9 w.heap.size w9.heap.size) := by
  have e : only w9 w2.heap.size w3.heap.size = only w3 w2.heap.size w3.heap.size := hX.only (Nat.le_refl _) (.inr hs)
  rw [← e]
  exact only_wide (by omega) hX.size
set_option maxHeartbeats 9000000 in
set_option maxRecDepth 100000 in
theorem copyAnswer_any (w : World) (x : Ans) (s a e : Value) (hH : HsV w x.shown s) (hG : GsV w x.tok.gs a) (hN : EsV w x.ents e) (hn : x.tok.gs.length ≤ 1000000) (hh : x.shown.length ≤ 1000000) (hb : ∀ y ∈ x.shown, y.body.length ≤ 4294967296) (he : x.ents.length ≤ 1000000) :
    Calls Tryz.prog 20 #[.agg (ansA x s a e)] w fun r w' => ∃ s' a' e', r = .returned (.agg (ansA x s' a' e')) ∧ HsV (only w' w.heap.size w'.heap.size) x.shown s' ∧ GsV (only w' w.heap.size w'.heap.size) x.tok.gs a' ∧ EsV (only w' w.heap.size w'.heap.size) x.ents e' ∧ Ext w w' := by
  have hct := fun (w' : World) (h : Ext w w') => copyToken_any w' x.tok a (hG.ext h) hn
  have hcs := fun (w' : World) (h : Ext w w') => (show Calls Tryz.prog 71 #[s] w' fun e w'' => ∃ A8 n8 c8, e = .returned (.slice A8 n8 c8) ∧ HsV (only w'' w'.heap.size w''.heap.size) x.shown (.slice A8 n8 c8) ∧ Ext w' w'' by
    obtain ⟨A1, c1, rfl, h1c, h1S⟩ := hH
    refine (copyShown_any w' A1 c1 x.shown (h1S.ext h) h1c hh hb).mono ?_
    rintro e9 w9 ⟨v, rfl, h2, h4⟩
    obtain ⟨A', c', rfl, -⟩ := id h2
    exact ⟨_, _, _, rfl, h2, h4⟩)
  have hce := fun (w' : World) (h : Ext w w') => (show Calls Tryz.prog 72 #[e] w' fun e w'' => ∃ A8 n8 c8, e = .returned (.slice A8 n8 c8) ∧ EsV (only w'' w'.heap.size w''.heap.size) x.ents (.slice A8 n8 c8) ∧ Ext w' w'' by
    obtain ⟨A1, c1, rfl, h1c, h1S⟩ := hN
    refine (copyEntries_any w' A1 c1 x.ents (h1S.ext h) h1c he).mono ?_
    rintro e9 w9 ⟨A', c', rfl, h2, h3, h4⟩
    exact ⟨_, _, _, rfl, ⟨A', c', rfl, h2, h3⟩, h4⟩)
  have os : s.oneCell' = true := by obtain ⟨_, _, rfl, _⟩ := hH; rfl
  have oa : a.oneCell' = true := by obtain ⟨_, _, rfl, _⟩ := hG; rfl
  have oe : e.oneCell' = true := by obtain ⟨_, _, rfl, _⟩ := hN; rfl
  obtain ⟨W, hW, hE, bx, -⟩ := box2 w (ansA x s a e) #[.int .i64 0, .int .i64 0, .slice none 0 0, .string ⟨#[]⟩, .int .i64 0, .slice none 0 0, .int .u8 0, .int .u8 0, .int .u8 0, .int .u8 0, .int .u8 0, .int .u8 0, .int .u8 0, .int .u8 0, .int .u8 0, .int .u8 0, .int .u8 0, .int .u8 0, .int .u8 0, .int .u8 0, .int .u8 0, .int .u8 0, .int .u8 0, .int .u8 0, .int .u8 0, .int .u8 0, .int .u8 0, .int .u8 0, .int .u8 0, .int .u8 0, .int .u8 0, .int .u8 0, .int .u8 0, .int .u8 0, .int .u8 0, .int .u8 0, .int .u8 0, .int .u8 0, .slice none 0 0] 46 46
  have B1 : Blk W w.heap.size 46 (ansA x s a e) := by rw [hW]; exact (Blk.new _ _ _).alloc _
  have B2 : Blk W (w.heap.size + 1) 46 #[.int .i64 0, .int .i64 0, .slice none 0 0, .string ⟨#[]⟩, .int .i64 0, .slice none 0 0, .int .u8 0, .int .u8 0, .int .u8 0, .int .u8 0, .int .u8 0, .int .u8 0, .int .u8 0, .int .u8 0, .int .u8 0, .int .u8 0, .int .u8 0, .int .u8 0, .int .u8 0, .int .u8 0, .int .u8 0, .int .u8 0, .int .u8 0, .int .u8 0, .int .u8 0, .int .u8 0, .int .u8 0, .int .u8 0, .int .u8 0, .int .u8 0, .int .u8 0, .int .u8 0, .int .u8 0, .int .u8 0, .int .u8 0, .int .u8 0, .int .u8 0, .int .u8 0, .slice none 0 0] := by rw [hW]; have := Blk.new (w.alloc (.cells (ansA x s a e) 46)) 46 #[.int .i64 0, .int .i64 0, .slice none 0 0, .string ⟨#[]⟩, .int .i64 0, .slice none 0 0, .int .u8 0, .int .u8 0, .int .u8 0, .int .u8 0, .int .u8 0, .int .u8 0, .int .u8 0, .int .u8 0, .int .u8 0, .int .u8 0, .int .u8 0, .int .u8 0, .int .u8 0, .int .u8 0, .int .u8 0, .int .u8 0, .int .u8 0, .int .u8 0, .int .u8 0, .int .u8 0, .int .u8 0, .int .u8 0, .int .u8 0, .int .u8 0, .int .u8 0, .int .u8 0, .int .u8 0, .int .u8 0, .int .u8 0, .int .u8 0, .int .u8 0, .int .u8 0, .slice none 0 0]; simpa using this
  have hWs : w.heap.size + 2 ≤ W.heap.size := by rw [hW]; simp
  have c2 := B1.cell 2 (v := s) rfl
  clear bx hH hG hN
  have hcs := hcs W hE
  obtain ⟨P, hP⟩ : ∃ P : Ending → World → Prop, (fun r w' => ∃ s' a' e', r = .returned (.agg (ansA x s' a' e')) ∧ HsV (only w' w.heap.size w'.heap.size) x.shown s' ∧ GsV (only w' w.heap.size w'.heap.size) x.tok.gs a' ∧ EsV (only w' w.heap.size w'.heap.size) x.ents e' ∧ Ext w w') = P := ⟨_, rfl⟩
  rw [hP]
  have HP := Lib.hid hP
  clear hP
  go_enter Tryz.func20, Tryz.ntmps20
  go_upto_region 1 with fail
  rw [← hW]
  clear hW
  go_upto_region 2 with (go_at_call 71; (with_reducible refine hcs.mono ?_); rintro r w1 ⟨A9, n9, c9, rfl, h1, hE1⟩; have D1 := B1.ext hE1; have c2b := D1.cell 2 (v := s) rfl; have f2 := D1.frozen 2)
  have E1 : Blk (w1.setCell ⟨w.heap.size, 2, none⟩ (.slice A9 n9 c9)) w.heap.size 46 (ansA x (.slice A9 n9 c9) a e) := D1.set_ 2 _
  have F1 : Blk (w1.setCell ⟨w.heap.size, 2, none⟩ (.slice A9 n9 c9)) (w.heap.size + 1) 46 #[.int .i64 0, .int .i64 0, .slice none 0 0, .string ⟨#[]⟩, .int .i64 0, .slice none 0 0, .int .u8 0, .int .u8 0, .int .u8 0, .int .u8 0, .int .u8 0, .int .u8 0, .int .u8 0, .int .u8 0, .int .u8 0, .int .u8 0, .int .u8 0, .int .u8 0, .int .u8 0, .int .u8 0, .int .u8 0, .int .u8 0, .int .u8 0, .int .u8 0, .int .u8 0, .int .u8 0, .int .u8 0, .int .u8 0, .int .u8 0, .int .u8 0, .int .u8 0, .int .u8 0, .int .u8 0, .int .u8 0, .int .u8 0, .int .u8 0, .int .u8 0, .int .u8 0, .slice none 0 0] := (B2.ext hE1).far (p := ⟨w.heap.size, 2, none⟩) (by simp) _
  have hX1 : Exc w.heap.size (w.heap.size + 2) w1 (w1.setCell ⟨w.heap.size, 2, none⟩ (.slice A9 n9 c9)) := Exc.setCell (lo := w.heap.size) (hi := w.heap.size + 2) (p := ⟨w.heap.size, 2, none⟩) (Nat.le_refl _) (by show w.heap.size < w.heap.size + 2; omega) _
  generalize w1.setCell ⟨w.heap.size, 2, none⟩ (.slice A9 n9 c9) = w2 at E1 F1 hX1 ⊢
  have hE2 : Ext w w2 := Exc.ext (hE.trans hE1) hX1 (Nat.le_refl _)
  have l1 := load_part E1 3 (tokA x.tok a) [.int .i64 x.code, .int .i64 x.num, (.slice A9 n9 c9)] [e] rfl rfl 26 _ Tryz.underlying26 rfl (by kernel_rfl)
  have hct := hct w2 hE2
  clear c2 c2b f2 D1 B1 B2 hcs
  go_upto_region 3 with (first | (refine wpList_load_by rfl rfl ?_ l1 ?_; (· rfl)) | (go_at_call 43; (with_reducible refine hct.mono ?_); rintro r w3 ⟨a1, rfl, h2, hE3⟩; have oa1 : a1.oneCell' = true := (by obtain ⟨_, _, rfl, _⟩ := h2; rfl); obtain ⟨w4, hr4, E4, hX4⟩ := store_part (E1.ext hE3) 3 (tokA x.tok a1) [.int .i64 x.code, .int .i64 x.num, (.slice A9 n9 c9)] (tokA x.tok a).toList [e] rfl rfl rfl 26 (by kernel_rfl) (one_tok _ _ oa1)) | (refine wpList_store_by rfl rfl ?_ ?_ hr4 ?_; (· rfl); (· rfl)))
  have E4 : Blk w4 w.heap.size 46 (ansA x (.slice A9 n9 c9) a1 e) := E4
  have F4 : Blk w4 (w.heap.size + 1) 46 #[.int .i64 0, .int .i64 0, .slice none 0 0, .string ⟨#[]⟩, .int .i64 0, .slice none 0 0, .int .u8 0, .int .u8 0, .int .u8 0, .int .u8 0, .int .u8 0, .int .u8 0, .int .u8 0, .int .u8 0, .int .u8 0, .int .u8 0, .int .u8 0, .int .u8 0, .int .u8 0, .int .u8 0, .int .u8 0, .int .u8 0, .int .u8 0, .int .u8 0, .int .u8 0, .int .u8 0, .int .u8 0, .int .u8 0, .int .u8 0, .int .u8 0, .int .u8 0, .int .u8 0, .int .u8 0, .int .u8 0, .int .u8 0, .int .u8 0, .int .u8 0, .int .u8 0, .slice none 0 0] := hX4.blk (F1.ext hE3) (.inr (Nat.le_refl _))
  have hX4 : Exc w.heap.size (w.heap.size + 2) w3 w4 := hX4.wide (Nat.le_refl _) (by omega)
  have hE4 : Ext w w4 := Exc.ext (hE2.trans hE3) hX4 (Nat.le_refl _)
  have c38 := E4.cell 38 (v := e) rfl
  have hce := hce w4 hE4
  clear l1 hct hr4 E1 F1
  go_upto_region 4 with (go_at_call 72; (with_reducible refine hce.mono ?_); rintro r w5 ⟨A8, n8, c8, rfl, h3, hE5⟩; have D5 := E4.ext hE5; have c38b := D5.cell 38 (v := e) rfl; have f38 := D5.frozen 38)
  have E6 : Blk (w5.setCell ⟨w.heap.size, 38, none⟩ (.slice A8 n8 c8)) w.heap.size 46 (ansA x (.slice A9 n9 c9) a1 (.slice A8 n8 c8)) := D5.set_ 38 _
  have F6 : Blk (w5.setCell ⟨w.heap.size, 38, none⟩ (.slice A8 n8 c8)) (w.heap.size + 1) 46 #[.int .i64 0, .int .i64 0, .slice none 0 0, .string ⟨#[]⟩, .int .i64 0, .slice none 0 0, .int .u8 0, .int .u8 0, .int .u8 0, .int .u8 0, .int .u8 0, .int .u8 0, .int .u8 0, .int .u8 0, .int .u8 0, .int .u8 0, .int .u8 0, .int .u8 0, .int .u8 0, .int .u8 0, .int .u8 0, .int .u8 0, .int .u8 0, .int .u8 0, .int .u8 0, .int .u8 0, .int .u8 0, .int .u8 0, .int .u8 0, .int .u8 0, .int .u8 0, .int .u8 0, .int .u8 0, .int .u8 0, .int .u8 0, .int .u8 0, .int .u8 0, .int .u8 0, .slice none 0 0] := (F4.ext hE5).far (p := ⟨w.heap.size, 38, none⟩) (by simp) _
  have hX6 : Exc w.heap.size (w.heap.size + 2) w5 (w5.setCell ⟨w.heap.size, 38, none⟩ (.slice A8 n8 c8)) := Exc.setCell (lo := w.heap.size) (hi := w.heap.size + 2) (p := ⟨w.heap.size, 38, none⟩) (Nat.le_refl _) (by show w.heap.size < w.heap.size + 2; omega) _
  generalize w5.setCell ⟨w.heap.size, 38, none⟩ (.slice A8 n8 c8) = w6 at E6 F6 hX6 ⊢
  have hl := load_whole E6 46 _ Tryz.underlying46 rfl (by kernel_rfl)
  obtain ⟨w7, hr7, B7, hX7⟩ := store_part F6 0 (ansA x (.slice A9 n9 c9) a1 (.slice A8 n8 c8)) [] [.int .i64 0, .int .i64 0, .slice none 0 0, .string ⟨#[]⟩, .int .i64 0, .slice none 0 0, .int .u8 0, .int .u8 0, .int .u8 0, .int .u8 0, .int .u8 0, .int .u8 0, .int .u8 0, .int .u8 0, .int .u8 0, .int .u8 0, .int .u8 0, .int .u8 0, .int .u8 0, .int .u8 0, .int .u8 0, .int .u8 0, .int .u8 0, .int .u8 0, .int .u8 0, .int .u8 0, .int .u8 0, .int .u8 0, .int .u8 0, .int .u8 0, .int .u8 0, .int .u8 0, .int .u8 0, .int .u8 0, .int .u8 0, .int .u8 0, .int .u8 0, .int .u8 0, .slice none 0 0] [] rfl rfl rfl 46 (by kernel_rfl) (one_ansT _ _ _ _ rfl oa1 rfl)
  clear c38 c38b f38 hce E4 F4 D5
  go_wp2_with (first | (refine wpList_load_by rfl rfl ?_ hl ?_; (· rfl)) | (refine wpList_store_by rfl rfl ?_ ?_ hr7 ?_; (· rfl); (· rfl)))
  have B7 : Blk w7 (w.heap.size + 1) 46 (ansA x (.slice A9 n9 c9) a1 (.slice A8 n8 c8)) := by simpa using B7
  refine bodyPost_ret (v := .agg (ansA x (.slice A9 n9 c9) a1 (.slice A8 n8 c8))) (results_cell_row (P := Tryz.prog) (fn := Tryz.f20) rfl _ w7 (w.heap.size + 1) _ _ _ _ rfl B7 Tryz.underlying46 rfl (by kernel_rfl)) rfl ?_
  rw [← HP.out]
  have hX57 : Exc w.heap.size (w.heap.size + 2) w5 w7 := hX6.trans (hX7.wide (by omega) (by omega))
  have hX37 : Exc w.heap.size (w.heap.size + 2) w3 w7 := hX4.trans ((Ext.exc hE5).trans hX57)
  have hX17 : Exc w.heap.size (w.heap.size + 2) w1 w7 := hX1.trans ((Ext.exc hE3).trans hX37)
  have z2 : w.heap.size + 2 ≤ w2.heap.size := Nat.le_trans hWs (Nat.le_trans hE1.le hX1.size)
  have z4 : w.heap.size + 2 ≤ w4.heap.size := Nat.le_trans z2 (Nat.le_trans hE3.le hX4.size)
  exact ⟨_, _, _, rfl, h1.mono (fin_own2 hWs hX17), h2.mono (fin_own2 z2 hX37), h3.mono (fin_own2 z4 hX57), Exc.ext (hE4.trans hE5) hX57 (Nat.le_refl _)⟩
set_option maxHeartbeats 9000000 in
set_option maxRecDepth 100000 in
theorem spoilAnswer_any (w : World) (lo hi : Nat) (hh : hi ≤ w.heap.size) (x : Ans) (s a e : Value) (hH : HsV (only w lo hi) x.shown s) (hG : GsV (only w lo hi) x.tok.gs a) (hN : EsV (only w lo hi) x.ents e) (hn : x.tok.gs.length ≤ 4294967296) (hm : x.shown.length ≤ 4294967296) (hb : ∀ y ∈ x.shown, y.body.length ≤ 4294967296) (he : x.ents.length ≤ 4294967296) :
    Calls Tryz.prog 32 #[.agg (ansA x s a e)] w fun e w' => e = .returned (.tuple #[]) ∧ Exc lo hi w w' := by
  obtain ⟨A1, c1, rfl, h1c, h1S⟩ := hH
  obtain ⟨A2, c2, rfl, h2c, h2S⟩ := hG
  obtain ⟨A3, c3, rfl, h3c, h3S⟩ := hN
  obtain ⟨W, hW, hE, bx⟩ := box1 w (ansA x (.slice A1 x.shown.length c1) (.slice A2 x.tok.gs.length c2) (.slice A3 x.ents.length c3)) 46
  have B1 : Blk W w.heap.size 46 (ansA x (.slice A1 x.shown.length c1) (.slice A2 x.tok.gs.length c2) (.slice A3 x.ents.length c3)) := by rw [hW]; exact Blk.new _ _ _
  rw [← only_ext hE hh] at h1S h2S h3S
  have hR1 := rowsAt_of h1S
  have hR2 := rowsAt_of h2S
  have hR3 := rowsAt_of h3S
  have hhW : hi ≤ W.heap.size := Nat.le_trans hh hE.le
  obtain ⟨p, hp⟩ : ∃ n, x.shown.length = n := ⟨_, rfl⟩
  obtain ⟨q, hq⟩ : ∃ n, x.tok.gs.length = n := ⟨_, rfl⟩
  obtain ⟨r, hr⟩ : ∃ n, x.ents.length = n := ⟨_, rfl⟩
  rw [hp] at hR1 h1c hm h1S
  rw [hq] at hR2 h2c hn
  rw [hr] at hR3 h3c he
  rw [hp, hq, hr] at hW B1 ⊢
  have HPL := Lib.hid hp
  clear bx h2S h3S hp hq hr
  go_enter Tryz.func32, Tryz.ntmps32
  go_upto_region 1 with fail
  rw [← hW]
  clear hW
  go_wp2_with fail
  go_loopw [2] (fun i wr => ∃ k : Nat, k ≤ p ∧ i = .int .i64 k ∧ Exc lo hi W wr ∧ Kind W wr) (fun i _ => p - (intOf i).toNat)
  case atStart => exact ⟨0, by omega, rfl, Exc.refl _ _ _, Kind.refl _⟩
  case round =>
    obtain ⟨k, hkn, rfl, hwr, hK⟩ := hrel
    have D2 := (hwr.blk B1 (.inr hh)).cell 2 (v := .slice A1 p c1) rfl
    by_cases hlt : k < p
    · obtain ⟨b, o, cs, rfl, hKz, hcell⟩ := h1S.get k hlt
      have hzb := hb _ (List.getElem_mem (l := x.shown) (n := k) (by rw [HPL.out]; omega))
      generalize x.shown[k]'(by rw [HPL.out]; omega) = z at *
      obtain ⟨bv, rfl, A4, c4, rfl, h4c, h4S⟩ := sh_cells hKz
      have x5 := hcell 5 (.slice A4 z.body.length c4) rfl
      simp only [show rdSh.sz = 6 from rfl] at x5
      obtain ⟨v', hv', ht⟩ := hK.only x5
      obtain rfl : v' = .slice A4 z.body.length c4 := by
        rcases ht with rfl | ⟨_, _, h, _⟩
        · rfl
        · cases h
      have x6 := (only_cell hv').2.2.1
      obtain ⟨y, hyl, hyS⟩ := kind_bytes hK h4S
      rw [← hyl] at x6 h4c hzb hyS
      have hsp := spoilBytes_any wr lo hi A4 c4 y hyS h4c hzb
      obtain ⟨ny, hny⟩ : ∃ ny, y.length = ny := ⟨_, rfl⟩
      rw [hny] at x6 hsp
      clear h1S h4S hcell hKz hv' ht hyS x5 B1
      go_wp2_with (go_at_call 17; (with_reducible refine hsp.mono ?_); rintro e w2 ⟨rfl, hX2, hK2⟩)
      go_roundw
      case rel => exact ⟨k + 1, by omega, by go_num, hwr.trans hX2, hK.trans hK2⟩
      case measure => simp [intOf]; omega
    · obtain rfl : k = p := by omega
      have hT := hK.there (lo := lo) (hi := hi)
      have hhr : hi ≤ wr.heap.size := Nat.le_trans hhW hwr.size
      have s1 := spoilTShown_any wr lo hi hhr A1 k c1 (hR1.there hT) h1c hm
      clear h1S
      go_upto_region 6 with (go_at_call 111; (with_reducible refine s1.mono ?_); rintro e w2 ⟨rfl, hX2, hT2⟩)
      have hT2 := hT.trans hT2
      have hX2 := hwr.trans hX2
      have D5 := (hX2.blk B1 (.inr hh)).cell 5 (v := .slice A2 q c2) rfl
      have s2 := spoilTGrants_any w2 lo hi (Nat.le_trans hhW hX2.size) A2 q c2 (hR2.there hT2) h2c hn
      clear D2 s1 hwr
      go_upto_region 7 with (go_at_call 109; (with_reducible refine s2.mono ?_); rintro e w3 ⟨rfl, hX3, hT3⟩)
      have hT3 := hT2.trans hT3
      have hX3 := hX2.trans hX3
      have D38 := (hX3.blk B1 (.inr hh)).cell 38 (v := .slice A3 r c3) rfl
      have s3 := spoilTEntries_any w3 lo hi (Nat.le_trans hhW hX3.size) A3 r c3 (hR3.there hT3) h3c he
      clear D5 s2 hX2
      go_wp2_with (go_at_call 112; (with_reducible refine s3.mono ?_); rintro e w4 ⟨rfl, hX4, hT4⟩)
      go_end0
      exact ⟨rfl, (Ext.exc hE).trans (hX3.trans hX4)⟩
end Go.Proofs.YtgfhbachgniipaaGreatDoor

namespace Go.Proofs.YtgfhbachgniipaaGreatDoor
open Go.RowKit
theorem dec_nat {a b : Nat} {v : Bool} (h : decide (a < b) = v) : decide ((a : Int) < (b : Int)) = v := by
  rw [← h]; apply decide_eq_decide.2; omega
set_option maxHeartbeats 9000000 in
set_option maxRecDepth 100000 in
theorem ransCheck_any (w : World) (x : Ans) (s a e : Value) (hH : HsV w x.shown s) (hG : GsV w x.tok.gs a) (hN : EsV w x.ents e) (hl : AnsLen x) :
    Calls Tryz.prog 24 #[.agg (ansA x s a e)] w fun e' w' => e' = .returned (.int .i64 (ansG x)) ∧ Ext w w' := by
  have hlk := fun (w' : World) (h : Ext w w') => links_any w' x.tok a (hG.ext h) hl.n
  obtain ⟨A, ca, rfl, hca, -⟩ := id hG
  obtain ⟨B, cb, rfl, hcb, hSH⟩ := id hH
  obtain ⟨D, cd, rfl, hcd, hSE⟩ := id hN
  rw [ansG_eq]
  have hbb := hl.b
  have hm1 := hl.h
  have hm2 := hl.e
  obtain ⟨b1, n1⟩ : ∃ b, decide (64 < x.shown.length) = b := ⟨_, rfl⟩
  obtain ⟨b2, n2⟩ : ∃ b, decide (64 < x.ents.length) = b := ⟨_, rfl⟩
  obtain ⟨b3, n3⟩ : ∃ b, decide (6 < x.tok.gs.length) = b := ⟨_, rfl⟩
  have g1 : decide ((64 : Int) < (x.shown.length : Int)) = b1 := dec_nat n1
  have g2 : decide ((64 : Int) < (x.ents.length : Int)) = b2 := dec_nat n2
  obtain ⟨t1, ht1⟩ : ∃ t, longT x.tok = t := ⟨_, rfl⟩
  obtain ⟨lk, hlke⟩ : ∃ l, linksG x.tok = l := ⟨_, rfl⟩
  have hlx : lk = if b3 = true then 3 else if t1 = true then 5 else 0 := by
    rw [← hlke, ← n3, ← ht1]
    unfold linksG
    simp
  rw [n1, n2, n3, ht1]
  rw [hlke] at hlk
  obtain ⟨W, hW, hE, bx⟩ := box1 w (ansA x (.slice B x.shown.length cb) (.slice A x.tok.gs.length ca) (.slice D x.ents.length cd)) 46
  have B1 : Blk W w.heap.size 46 (ansA x (.slice B x.shown.length cb) (.slice A x.tok.gs.length ca) (.slice D x.ents.length cd)) := by rw [hW]; exact Blk.new _ _ _
  have x2 : W.cell? ⟨w.heap.size, 2, none⟩ = some (.slice B x.shown.length cb) := bx 2 _ rfl
  have xr2 := fun (w' : World) (h : Ext W w') => h.cellk x2
  clear x2
  have x38 : W.cell? ⟨w.heap.size, 38, none⟩ = some (.slice D x.ents.length cd) := bx 38 _ rfl
  have xr38 := fun (w' : World) (h : Ext W w') => h.cellk x38
  clear x38
  have lt := fun (w' : World) (h : Ext W w') => load_part (B1.ext h) 3 (tokA x.tok (.slice A x.tok.gs.length ca)) [.int .i64 x.code, .int .i64 x.num, .slice B x.shown.length cb] [.slice D x.ents.length cd] rfl rfl 26 _ Tryz.underlying26 rfl (by kernel_rfl)
  generalize ansA x (.slice B x.shown.length cb) (.slice A x.tok.gs.length ca) (.slice D x.ents.length cd) = C at *
  generalize tokA x.tok (.slice A x.tok.gs.length ca) = T at *
  have hSH := hSH.ext hE
  have hSE := hSE.ext hE
  obtain ⟨m1, hm1e⟩ : ∃ m, x.shown.length = m := ⟨_, rfl⟩
  obtain ⟨m2, hm2e⟩ : ∃ m, x.ents.length = m := ⟨_, rfl⟩
  rw [hm1e] at hSH hcb xr2 g1 hm1
  rw [hm2e] at hSE hcd xr38 g2 hm2
  have H1 := Lib.hid hm1e
  have H2 := Lib.hid hm2e
  clear hm1e hm2e bx hH hG hN hl B1 n1 n2 n3 ht1 hlke hca
  have hY := Ext.refl W
  cases b1
  rotate_left 1
  · go_enter Tryz.func24, Tryz.ntmps24
    go_upto_region 1 with fail
    rw [← hW]
    clear hW
    have y2 := xr2 _ hY
    go_wp2_with fail
    go_ret
    exact ⟨rfl, hE⟩
  cases b2
  rotate_left 1
  · go_enter Tryz.func24, Tryz.ntmps24
    go_upto_region 1 with fail
    rw [← hW]
    clear hW
    have y2 := xr2 _ hY
    have y38 := xr38 _ hY
    go_wp2_with fail
    go_ret
    exact ⟨rfl, hE⟩
  cases b3
  rotate_left 1
  · obtain rfl : lk = 3 := by rw [hlx]; rfl
    go_enter Tryz.func24, Tryz.ntmps24
    go_upto_region 1 with fail
    rw [← hW]
    clear hW hlx
    have y2 := xr2 _ hY
    have y38 := xr38 _ hY
    have y3 := lt _ hY
    go_wp2_with (first | (refine wpList_load_w rfl rfl ?_ y3 ?_; (· rfl)) | (go_at_call 65; (with_reducible refine (hlk _ hE).mono ?_); rintro e w1 ⟨rfl, hE1⟩))
    go_ret
    exact ⟨rfl, hE.trans hE1⟩
  have hk3 : (lk == 3) = false := by rw [hlx]; cases t1 <;> rfl
  have hk0 : (lk != 0) = t1 := by rw [hlx]; cases t1 <;> rfl
  obtain ⟨r1, hr1⟩ : ∃ r, (t1 || (x.shown.any longH || x.ents.any longE)) = r := ⟨_, rfl⟩
  have HR := Lib.hid hr1
  rw [hr1]
  clear hlx hr1
  go_enter Tryz.func24, Tryz.ntmps24
  go_upto_region 1 with fail
  rw [← hW]
  clear hW
  have y2 := xr2 _ hY
  have y38 := xr38 _ hY
  have y3 := lt _ hY
  go_upto_region 4 with (first | (refine wpList_load_w rfl rfl ?_ y3 ?_; (· rfl)) | (go_at_call 65; (with_reducible refine (hlk _ hE).mono ?_); rintro e w1 ⟨rfl, hE1⟩; have y3b := lt _ hE1) | (refine wpList_load_by rfl rfl ?_ y3b ?_; (· rfl)) | (go_at_call 65; (with_reducible refine (hlk _ (hE.trans hE1)).mono ?_); rintro e w2 ⟨rfl, hE2⟩))
  have hY2 := hE1.trans hE2
  clear y2 y38 y3 y3b hlk hE1 hE2 lt hk3
  go_wp2_with fail
  go_loopw [3, 4] (fun s i wr => ∃ k : Nat, k ≤ m1 ∧ i = .int .i64 k ∧ s = .bool (t1 || (x.shown.take k).any longH) ∧ Ext W wr) (fun _ i _ => m1 - (intOf i).toNat)
  case atStart => exact ⟨0, by omega, rfl, by simp [hk0], hY2⟩
  case round =>
    clear hY2
    obtain ⟨k, hkn, rfl, rfl, hwr⟩ := hrel
    have y2 := xr2 _ hwr
    by_cases hlt : k < m1
    · obtain ⟨b, o, rfl⟩ := el_addr hSH k hlt
      have hl1 := H1.out
      obtain ⟨z, hz⟩ : ∃ z, x.shown[k]? = some z := ⟨_, List.getElem?_eq_getElem (by omega)⟩
      obtain ⟨hkl, hzl⟩ := List.getElem?_eq_some_iff.1 hz
      obtain ⟨cs, hK, rx⟩ := el_loadK (hSH.ext hwr) k z hz 70 _ Tryz.underlying70 rfl (by kernel_rfl)
      simp only [show rdSh.sz = 6 from rfl] at rx
      obtain ⟨bv, rfl, A2, c2, rfl, h2c, -⟩ := sh_cells hK
      have hbz := hbb z (by rw [← hzl]; exact List.getElem_mem hkl)
      have hta : (t1 || (x.shown.take (k + 1)).any longH) = ((t1 || (x.shown.take k).any longH) || longH z) := by rw [List.take_succ_eq_append_getElem hkl, hzl, List.any_append]; simp [Bool.or_assoc]
      generalize (t1 || (x.shown.take k).any longH) = c0 at *
      obtain ⟨v1, e1⟩ : ∃ v, decide (24 < z.st.size) = v := ⟨_, rfl⟩
      obtain ⟨v2, e2⟩ : ∃ v, decide (24 < z.su.size) = v := ⟨_, rfl⟩
      obtain ⟨v3, e3⟩ : ∃ v, decide (256 < z.body.length) = v := ⟨_, rfl⟩
      have hlz : longH z = (v1 || (v2 || v3)) := by rw [← e1, ← e2, ← e3]; rfl
      rw [hlz] at hta
      have HT := Lib.hid hta
      have f1 : decide ((24 : Int) < (z.st.size : Int)) = v1 := dec_nat e1
      have f2 : decide ((24 : Int) < (z.su.size : Int)) = v2 := dec_nat e2
      have f3 : decide ((256 : Int) < (z.body.length : Int)) = v3 := dec_nat e3
      obtain ⟨wS, hrS, BS, hXS⟩ := store_part (Blk.new wr 70 #[.string ⟨#[]⟩, .string ⟨#[]⟩, .int .i64 0, .int .i64 0, .int .i64 0, .slice none 0 0]) 0 (shA z (.slice A2 z.body.length c2)) [] [.string ⟨#[]⟩, .string ⟨#[]⟩, .int .i64 0, .int .i64 0, .int .i64 0, .slice none 0 0] [] rfl rfl rfl 70 (by kernel_rfl) (one_shA _ _ rfl)
      have BS : Blk wS wr.heap.size 70 (shA z (.slice A2 z.body.length c2)) := by simpa using BS
      have hES : Ext wr wS := Exc.ext ((Ext.refl _).alloc _) hXS (Nat.le_refl _)
      have z0 := BS.cell 0 (v := .string z.st) rfl
      have z1 := BS.cell 1 (v := .string z.su) rfl
      have z5 := BS.cell 5 (v := .slice A2 z.body.length c2) rfl
      have rxa := rx _ (Ext.refl _)
      rw [Array.toArray_toList] at rxa
      generalize shA z (.slice A2 z.body.length c2) = C2 at rxa hrS
      have hYS := hwr.trans hES
      generalize z.body.length = nb at *
      generalize z.st = s1 at *
      generalize z.su = s2 at *
      clear hSH hK hta hlz hz hl1 hXS BS hzl hkl rx
      cases c0
      rotate_left 1
      · go_wp2_with (first | (refine wpList_load_by rfl rfl ?_ rxa ?_; (· rfl)) | (refine wpList_store_by rfl rfl ?_ ?_ hrS ?_; (· rfl); (· rfl)))
        go_roundw
        case rel => exact ⟨k + 1, by omega, by go_num, by rw [HT.out]; simp, hYS⟩
        case measure => simp [intOf]; omega
      cases v1
      rotate_left 1
      · go_wp2_with (first | (refine wpList_load_by rfl rfl ?_ rxa ?_; (· rfl)) | (refine wpList_store_by rfl rfl ?_ ?_ hrS ?_; (· rfl); (· rfl)))
        go_roundw
        case rel => exact ⟨k + 1, by omega, by go_num, by rw [HT.out]; simp, hYS⟩
        case measure => simp [intOf]; omega
      cases v2
      rotate_left 1
      · go_wp2_with (first | (refine wpList_load_by rfl rfl ?_ rxa ?_; (· rfl)) | (refine wpList_store_by rfl rfl ?_ ?_ hrS ?_; (· rfl); (· rfl)))
        go_roundw
        case rel => exact ⟨k + 1, by omega, by go_num, by rw [HT.out]; simp, hYS⟩
        case measure => simp [intOf]; omega
      · go_wp2_with (first | (refine wpList_load_by rfl rfl ?_ rxa ?_; (· rfl)) | (refine wpList_store_by rfl rfl ?_ ?_ hrS ?_; (· rfl); (· rfl)))
        go_roundw
        case rel => exact ⟨k + 1, by omega, by go_num, by rw [HT.out]; simp, hYS⟩
        case measure => simp [intOf]; omega
    · obtain rfl : k = m1 := by omega
      have htk : x.shown.take k = x.shown := List.take_of_length_le (by rw [H1.out]; omega)
      rw [htk]
      obtain ⟨t2, ht2⟩ : ∃ t, (t1 || x.shown.any longH) = t := ⟨_, rfl⟩
      have HR2 : Hid ((t2 || x.ents.any longE) = r1) := Lib.hid (by rw [← HR.out, ← ht2, Bool.or_assoc])
      rw [ht2]
      clear hSH htk ht2 hk0
      go_wp2_with fail
      clear y2
      go_loopw [3, 6] (fun s i wq => ∃ j : Nat, j ≤ m2 ∧ i = .int .i64 j ∧ s = .bool (t2 || (x.ents.take j).any longE) ∧ wq = wr) (fun _ i _ => m2 - (intOf i).toNat)
      case atStart => exact ⟨0, by omega, rfl, by simp, by trivial⟩
      case round =>
        obtain ⟨j, hjn, rfl, rfl, rfl⟩ := hrel
        have y38 := xr38 _ hwr
        by_cases hlt : j < m2
        · obtain ⟨b, o, cs, rfl, hK, hcell⟩ := (hSE.ext hwr).get j hlt
          obtain rfl := en_cells hK
          have hl2 := H2.out
          have hta : (t2 || (x.ents.take (j + 1)).any longE) = ((t2 || (x.ents.take j).any longE) || longE (x.ents[j]'(by omega))) := by rw [List.take_succ_eq_append_getElem (by omega), List.any_append]; simp [Bool.or_assoc]
          generalize x.ents[j]'(by omega) = z at *
          generalize (t2 || (x.ents.take j).any longE) = c0 at *
          obtain ⟨v1, e1⟩ : ∃ v, decide (24 < z.st.size) = v := ⟨_, rfl⟩
          obtain ⟨v2, e2⟩ : ∃ v, decide (24 < z.su.size) = v := ⟨_, rfl⟩
          have hlz : longE z = (v1 || v2) := by rw [← e1, ← e2]; rfl
          rw [hlz] at hta
          have HT := Lib.hid hta
          have f1 : decide ((24 : Int) < (z.st.size : Int)) = v1 := dec_nat e1
          have f2 : decide ((24 : Int) < (z.su.size : Int)) = v2 := dec_nat e2
          have z0 := hcell 5 (.string z.st) rfl
          have z1 := hcell 6 (.string z.su) rfl
          simp only [show rdEn.sz = 39 from rfl] at z0 z1
          generalize z.st = s1 at *
          generalize z.su = s2 at *
          clear hSE hK hta hlz hl2 hcell
          cases c0
          rotate_left 1
          · go_wp2_with fail
            go_roundw
            case rel => exact ⟨j + 1, by omega, by go_num, by rw [HT.out]; simp, by trivial⟩
            case measure => simp [intOf]; omega
          cases v1
          rotate_left 1
          · go_wp2_with fail
            go_roundw
            case rel => exact ⟨j + 1, by omega, by go_num, by rw [HT.out]; simp, by trivial⟩
            case measure => simp [intOf]; omega
          · go_wp2_with fail
            go_roundw
            case rel => exact ⟨j + 1, by omega, by go_num, by rw [HT.out]; simp, by trivial⟩
            case measure => simp [intOf]; omega
        · obtain rfl : j = m2 := by omega
          have htk : x.ents.take j = x.ents := List.take_of_length_le (by rw [H2.out]; omega)
          rw [htk, HR2.out]
          clear hSE htk
          cases r1
          · go_wp2_with fail
            go_ret
            exact ⟨rfl, hE.trans hwr⟩
          · go_wp2_with fail
            go_ret
            exact ⟨rfl, hE.trans hwr⟩
end Go.Proofs.YtgfhbachgniipaaGreatDoor

namespace Go.Proofs.YtgfhbachgniipaaGreatDoor
open Go.RowKit
theorem rints5 {N : Nat} {w : World} {v : Value} {L : List UInt8} {g : Nat} (h : Buf N w v L) (B : Nat) (hB : B ≤ w.heap.size) (hN : N ≤ 900000000) (x1 x2 x3 x4 x5 : Int) (b : Blk w g 3 #[.int .i64 x1, .int .i64 x2, .int .i64 x3, .int .i64 x4, .int .i64 x5]) : Calls Tryz.prog 51 #[v, .slice (some ⟨g, 0, none⟩) 5 5] w fun e w' => ∃ u, e = .returned u ∧ OwnN B (N + 40) w' u (L ++ (num8 x1 ++ (num8 x2 ++ (num8 x3 ++ (num8 x4 ++ num8 x5))))) ∧ Ext w w' := by
  have := rintsL h B hB _ 5 [x1, x2, x3, x4, x5] (ints_sl [x1, x2, x3, x4, x5] b) (Nat.le_refl _) (by simp) (by simp) hN
  simpa [numsB] using this
set_option maxHeartbeats 9000000 in
set_option maxRecDepth 100000 in
theorem raput_any (w : World) (x : Ans) (s a e : Value) (hH : HsV w x.shown s) (hG : GsV w x.tok.gs a) (hN : EsV w x.ents e) (hf : AnsFitL x) :
    Calls Tryz.prog 22 #[.agg (ansA x s a e)] w (PutA w x) := by
  have hck := fun (w' : World) (h : Ext w w') => ransCheck_any w' x s a e (hH.ext h) (hG.ext h) (hN.ext h) hf.len
  obtain ⟨A1, c1, rfl, h1c, hSH⟩ := id hH
  obtain ⟨A2, c2, rfl, h2c, hSE⟩ := id hN
  obtain ⟨p, hp⟩ : ∃ p, x.shown.length = p := ⟨_, rfl⟩
  obtain ⟨r, hr⟩ : ∃ r, x.ents.length = r := ⟨_, rfl⟩
  rw [hp] at hSH h1c hck ⊢
  rw [hr] at hSE h2c hck ⊢
  obtain ⟨W, hW, hE, bx⟩ := box1 w (ansA x (.slice A1 p c1) a (.slice A2 r c2)) 46
  have B1 : Blk W w.heap.size 46 (ansA x (.slice A1 p c1) a (.slice A2 r c2)) := by rw [hW]; exact Blk.new _ _ _
  have l0 := load_whole B1 46 _ Tryz.underlying46 rfl (by kernel_rfl)
  have l1 := fun (w' : World) (h : Ext W w') => load_part (B1.ext h) 3 (tokA x.tok a) [.int .i64 x.code, .int .i64 x.num, .slice A1 p c1] [.slice A2 r c2] rfl rfl 26 _ Tryz.underlying26 rfl (by kernel_rfl)
  have x0 : W.cell? ⟨w.heap.size, 0, none⟩ = some (.int .i64 x.code) := bx 0 _ rfl
  have xr0 := fun (w' : World) (h : Ext W w') => h.cellk x0
  clear x0
  have x1 : W.cell? ⟨w.heap.size, 1, none⟩ = some (.int .i64 x.num) := bx 1 _ rfl
  have xr1 := fun (w' : World) (h : Ext W w') => h.cellk x1
  clear x1
  have x2 : W.cell? ⟨w.heap.size, 2, none⟩ = some (.slice A1 p c1) := bx 2 _ rfl
  have xr2 := fun (w' : World) (h : Ext W w') => h.cellk x2
  clear x2
  have x38 : W.cell? ⟨w.heap.size, 38, none⟩ = some (.slice A2 r c2) := bx 38 _ rfl
  have xr38 := fun (w' : World) (h : Ext W w') => h.cellk x38
  clear x38
  obtain ⟨P, hP⟩ : ∃ P, PutA w x = P := ⟨_, rfl⟩
  obtain ⟨v, hv⟩ : ∃ v, ansG x = v := ⟨_, rfl⟩
  rw [hv] at hck
  rw [hP]
  have HP := Lib.hid hP
  have HV := Lib.hid hv
  have HPL := Lib.hid hp
  have HRL := Lib.hid hr
  have hp100 : p ≤ 100 := by rw [← hp]; exact hf.m
  have hr100 : r ≤ 100 := by rw [← hr]; exact hf.k
  have hB : w.heap.size ≤ W.heap.size := hE.le
  have htp := fun (N' : Nat) (w' : World) (v' : Value) (L' : List UInt8) (h1 : Buf N' w' v' L') (h2 : N' ≤ 500000000) (h : Ext W w') => @rputL N' w' v' L' h1 w.heap.size (Nat.le_trans hB h.le) h2 x.tok hf.tok a (hG.ext (hE.trans h))
  have hSH := hSH.ext hE
  have hSE := hSE.ext hE
  generalize hC : ansA x (.slice A1 p c1) a (.slice A2 r c2) = C at *
  generalize tokA x.tok a = T at *
  clear hP hv hp hr hH hG hN B1 bx hC
  by_cases h0 : v = 0
  rotate_left 1
  · have h0' : (v != 0) = true := by simpa using h0
    go_enter Tryz.func22, Tryz.ntmps22
    go_upto_region 1 with fail
    rw [← hW]
    clear hW
    go_wp2_with (first | (refine wpList_load_by rfl rfl ?_ l0 ?_; (· rfl)) | (go_at_call 24; (with_reducible refine (hck _ hE).mono ?_); rintro e w1 ⟨rfl, hE1⟩))
    rw [← HP.out]
    exact ⟨fun _ => by rw [HV.out]; rfl, fun h => absurd (HV.out.symm.trans h) h0, hE.trans hE1⟩
  have h0' : (v != 0) = false := by simpa using h0
  have hz : ansG x = 0 := HV.out.trans h0
  subst h0
  go_enter Tryz.func22, Tryz.ntmps22
  go_upto_region 1 with fail
  rw [← hW]
  clear hW
  go_upto_region 4 with (first | (refine wpList_load_by rfl rfl ?_ l0 ?_; (· rfl)) | (go_at_call 24; (with_reducible refine (hck _ hE).mono ?_); rintro e w1 ⟨rfl, hE1⟩))
  clear l0 hck
  have z0 := xr0 _ hE1
  have z1 := xr1 _ hE1
  have z2 := xr2 _ hE1
  have hi4 := fun (w' : World) (g : Nat) (bk : Blk w' g 3 #[.int .i64 x.code, .int .i64 x.num, .int .i64 p]) (e : Ext w1 w') => rints3 (Buf.nil w') w.heap.size (Nat.le_trans hB (Nat.le_trans hE1.le e.le)) (by decide) x.code x.num p bk
  go_upto_region 5 with (go_at_call 51; (with_reducible refine (hi4 _ _ (Blk.new _ _ _) ((Ext.refl _).alloc _)).mono ?_); rintro e w2 ⟨v2, rfl, hO2, hE2⟩)
  have hY2 := hE1.trans (((Ext.refl _).alloc (.cells #[.int .i64 x.code, .int .i64 x.num, .int .i64 p] 3)).trans hE2)
  have hO2 := (hO2.re (L' := num8 x.code ++ (num8 x.num ++ num8 p)) (by simp)).wide (N' := 1000) (by decide)
  clear hi4 z0 z1 z2
  go_wp2_with fail
  go_loopw [5, 6] (fun s i wr => ∃ k : Nat, k ≤ p ∧ i = .int .i64 k ∧ OwnN w.heap.size (1000 + 3145776 * k) wr s (num8 x.code ++ (num8 x.num ++ (num8 p ++ (x.shown.take k).flatMap shB))) ∧ Ext W wr) (fun _ i _ => p - (intOf i).toNat)
  case atStart => exact ⟨0, by omega, rfl, by simpa using hO2, hY2⟩
  case round =>
    clear hO2 hY2
    obtain ⟨k, hkn, rfl, hO, hwr⟩ := hrel
    have y2 := xr2 _ hwr
    by_cases hlt : k < p
    · obtain ⟨b, o, rfl⟩ := el_addr hSH k hlt
      have hl1 := HPL.out
      obtain ⟨z, hz'⟩ : ∃ z, x.shown[k]? = some z := ⟨_, List.getElem?_eq_getElem (by omega)⟩
      obtain ⟨hkl, hzl⟩ := List.getElem?_eq_some_iff.1 hz'
      obtain ⟨cs, hK, rx⟩ := el_loadK (hSH.ext hwr) k z hz' 70 _ Tryz.underlying70 rfl (by kernel_rfl)
      simp only [show rdSh.sz = 6 from rfl] at rx
      obtain ⟨bv, rfl, A3, c3, rfl, h3c, h3S⟩ := sh_cells hK
      have hfz := hf.sh z (by rw [← hzl]; exact List.getElem_mem hkl)
      have hone := flat_enc shB x.shown k hkl
      rw [hzl] at hone
      obtain ⟨wS, hrS, BS, hXS⟩ := store_part (Blk.new wr 70 #[.string ⟨#[]⟩, .string ⟨#[]⟩, .int .i64 0, .int .i64 0, .int .i64 0, .slice none 0 0]) 0 (shA z (.slice A3 z.body.length c3)) [] [.string ⟨#[]⟩, .string ⟨#[]⟩, .int .i64 0, .int .i64 0, .int .i64 0, .slice none 0 0] [] rfl rfl rfl 70 (by kernel_rfl) (one_shA _ _ rfl)
      have BS : Blk wS wr.heap.size 70 (shA z (.slice A3 z.body.length c3)) := by simpa using BS
      have hES : Ext wr wS := Exc.ext ((Ext.refl _).alloc _) hXS (Nat.le_refl _)
      have rxa := rx _ (Ext.refl _)
      rw [Array.toArray_toList] at rxa
      have hBS : w.heap.size ≤ wS.heap.size := Nat.le_trans hB (Nat.le_trans hwr.le hES.le)
      have sc0 := BS.cell 0 (v := .string z.st) rfl
      have sr0 := fun (w' : World) (h : Ext wS w') => h.cellk sc0
      have sc1 := BS.cell 1 (v := .string z.su) rfl
      have sr1 := fun (w' : World) (h : Ext wS w') => h.cellk sc1
      have sc2 := BS.cell 2 (v := .int .i64 z.ver) rfl
      have sr2 := fun (w' : World) (h : Ext wS w') => h.cellk sc2
      have sc3 := BS.cell 3 (v := .int .i64 z.pos) rfl
      have sr3 := fun (w' : World) (h : Ext wS w') => h.cellk sc3
      have sc4 := BS.cell 4 (v := .int .i64 z.code) rfl
      have sr4 := fun (w' : World) (h : Ext wS w') => h.cellk sc4
      have sc5 := BS.cell 5 (v := .slice A3 z.body.length c3) rfl
      have sr5 := fun (w' : World) (h : Ext wS w') => h.cellk sc5
      have hbl := fun (N' : Nat) (w' : World) (v' : Value) (L' : List UInt8) (h1 : Buf N' w' v' L') (h2 : N' ≤ 1000000000) (e : Ext wS w') => @rblobL N' w' v' L' h1 h2 w.heap.size (Nat.le_trans hBS e.le) A3 c3 z.body (h3S.ext (hES.trans e)) h3c hfz.body
      obtain ⟨nb, hnb⟩ : ∃ n, z.body.length = n := ⟨_, rfl⟩
      generalize shA z (.slice A3 z.body.length c3) = C2 at rxa hrS
      rw [hnb] at hbl sr5
      have hOS := hO.ext hES
      have HONE := Lib.hid hone
      clear hK hz' hl1 hXS BS hzl hkl rx hone h3S hnb h3c hO sc0 sc1 sc2 sc3 sc4 sc5
      go_upto_region 9 with (first | (refine wpList_load_by rfl rfl ?_ rxa ?_; (· rfl)) | (refine wpList_store_by rfl rfl ?_ ?_ hrS ?_; (· rfl); (· rfl)))
      clear rxa hrS y2
      have hYS := Ext.refl wS
      refine wp_region_noPanic ?_
      refine tr_start (.y 0 (.y 1 (.y 2 (.y 4 (.y 5 (.e 3 (.e 6 (.y 7 .nil)))))))) (fun w' => Ext wS w') (by kernel_rfl) (by as_aux_lemma => kernel_rfl) (fun _ _ _ _ _ h => h) (by (repeat (first | assumption | exact Ext.refl _ | refine Ext.drew ?_ | refine Ext.alloc ?_ _ | refine Ext.drewN ?_ _ | refine Ext.trans ?_ (by assumption)))) ?_
      have ea0 : Ext wS wS.drew := (Ext.refl _).drew
      generalize wS.drew = qa0 at ea0 ⊢
      have hYa0 := hYS.trans ea0
      (first | (refine tr_off (a' := ?_) rfl rfl (by rfl) ?_ ?_; rotate_left 1; (· simp only [Act.put, zzA, zz0, zzS]; rfl)) | (refine tr_y (v := ?_) (a' := ?_) rfl rfl (by rfl) (fun w' hw' => ?_) ?_ ?_; rotate_left 2; (· go_simp; with_reducible rfl); (· simp only [Act.put, zzA, zz0, zzS]; rfl)))
      (first | (refine tr_off (a' := ?_) rfl rfl (by rfl) ?_ ?_; rotate_left 1; (· simp only [Act.put, zzA, zz0, zzS]; rfl)) | (refine tr_y (v := ?_) (a' := ?_) rfl rfl (by rfl) (fun w' hw' => ?_) ?_ ?_; rotate_left 2; (· go_simp; with_reducible rfl); (· simp only [Act.put, zzA, zz0, zzS]; rfl)))
      (first | (refine tr_off (a' := ?_) rfl rfl (by rfl) ?_ ?_; rotate_left 1; (· simp only [Act.put, zzA, zz0, zzS]; rfl)) | (refine tr_y (v := ?_) (a' := ?_) rfl rfl (by rfl) (fun w' hw' => ?_) ?_ ?_; rotate_left 2; (· go_simp; with_reducible rfl); (· simp only [Act.put, zzA, zz0, zzS]; rfl)))
      (first | (refine tr_off (a' := ?_) rfl rfl (by rfl) ?_ ?_; rotate_left 1; (· simp only [Act.put, zzA, zz0, zzS]; rfl)) | (refine tr_y (v := ?_) (a' := ?_) rfl rfl (by rfl) (fun w' hw' => ?_) ?_ ?_; rotate_left 2; (· go_simp; with_reducible rfl); (· simp only [Act.put, zzA, zz0, zzS]; rfl)))
      (first | (refine tr_off (a' := ?_) rfl rfl (by rfl) ?_ ?_; rotate_left 1; (· simp only [Act.put, zzA, zz0, zzS]; rfl)) | (refine tr_y (v := ?_) (a' := ?_) rfl rfl (by rfl) (fun w' hw' => ?_) ?_ ?_; rotate_left 2; (· go_simp; with_reducible rfl); (· simp only [Act.put, zzA, zz0, zzS]; rfl)))
      refine tr_call (args := ?_) rfl Tryz.func52 (by kernel_rfl) rfl (by rfl) rfl rfl ?_ ?_
      rotate_left 1
      · go_simp; rfl
      (with_reducible refine (rtextL (hOS.ext ea0).buf (by omega) w.heap.size (Nat.le_trans hBS (Ext.le hYa0)) z.st hfz.st).mono ?_)
      rintro e qa1 ⟨u39, rfl, hO39, ea1⟩
      have hYa1 := hYa0.trans ea1
      refine ⟨_, _, rfl, hYa1, (by simp only [Act.put, zzA, zz0, zzS]; rfl), ?_⟩
      refine tr_call (args := ?_) rfl Tryz.func52 (by kernel_rfl) rfl (by rfl) rfl rfl ?_ ?_
      rotate_left 1
      · go_simp; rfl
      (with_reducible refine (rtextL hO39.buf (by omega) w.heap.size (Nat.le_trans hBS (Ext.le hYa1)) z.su hfz.su).mono ?_)
      rintro e qa2 ⟨u42, rfl, hO42, ea2⟩
      have hYa2 := hYa1.trans ea2
      refine ⟨_, _, rfl, hYa2, (by simp only [Act.put, zzA, zz0, zzS]; rfl), ?_⟩
      (first | (refine tr_off (a' := ?_) rfl rfl (by rfl) ?_ ?_; rotate_left 1; (· simp only [Act.put, zzA, zz0, zzS]; rfl)) | (refine tr_y (v := ?_) (a' := ?_) rfl rfl (by rfl) (fun w' hw' => ?_) ?_ ?_; rotate_left 2; (· go_simp; with_reducible rfl); (· simp only [Act.put, zzA, zz0, zzS]; rfl)))
      refine tr_end ?_
      refine NoPanic.normal ?_
      go_upto_region 10 with fail
      clear hOS hO39
      refine wp_region_noPanic ?_
      refine tr_start (.y 0 (.y 1 (.y 2 (.y 3 (.y 4 (.y 5 (.y 6 (.y 9 (.y 10 (.e 7 (.e 8 (.e 11 (.y 12 .nil))))))))))))) (fun w' => Ext wS w') (by kernel_rfl) (by as_aux_lemma => kernel_rfl) (fun _ _ _ _ _ h => h) (by (repeat (first | assumption | exact Ext.refl _ | refine Ext.drew ?_ | refine Ext.alloc ?_ _ | refine Ext.drewN ?_ _ | refine Ext.trans ?_ (by assumption)))) ?_
      have ec0 : Ext qa2 qa2.drew := (Ext.refl _).drew
      generalize qa2.drew = qc0 at ec0 ⊢
      have hYc0 := hYa2.trans ec0
      (first | (refine tr_off (a' := ?_) rfl rfl (by rfl) ?_ ?_; rotate_left 1; (· simp only [Act.put, zzA, zz0, zzS]; rfl)) | (refine tr_y (v := ?_) (a' := ?_) rfl rfl (by rfl) (fun w' hw' => ?_) ?_ ?_; rotate_left 2; (· go_simp; with_reducible rfl); (· simp only [Act.put, zzA, zz0, zzS]; rfl)))
      (first | (refine tr_off (a' := ?_) rfl rfl (by rfl) ?_ ?_; rotate_left 1; (· simp only [Act.put, zzA, zz0, zzS]; rfl)) | (refine tr_y (v := ?_) (a' := ?_) rfl rfl (by rfl) (fun w' hw' => ?_) ?_ ?_; rotate_left 2; (· go_simp; with_reducible rfl); (· simp only [Act.put, zzA, zz0, zzS]; rfl)))
      (first | (refine tr_off (a' := ?_) rfl rfl (by rfl) ?_ ?_; rotate_left 1; (· simp only [Act.put, zzA, zz0, zzS]; rfl)) | (refine tr_y (v := ?_) (a' := ?_) rfl rfl (by rfl) (fun w' hw' => ?_) ?_ ?_; rotate_left 2; (· go_simp; with_reducible rfl); (· simp only [Act.put, zzA, zz0, zzS]; rfl)))
      (first | (refine tr_off (a' := ?_) rfl rfl (by rfl) ?_ ?_; rotate_left 1; (· simp only [Act.put, zzA, zz0, zzS]; rfl)) | (refine tr_y (v := ?_) (a' := ?_) rfl rfl (by rfl) (fun w' hw' => ?_) ?_ ?_; rotate_left 2; (· go_simp; with_reducible rfl); (· simp only [Act.put, zzA, zz0, zzS]; rfl)))
      (first | (refine tr_off (a' := ?_) rfl rfl (by rfl) ?_ ?_; rotate_left 1; (· simp only [Act.put, zzA, zz0, zzS]; rfl)) | (refine tr_y (v := ?_) (a' := ?_) rfl rfl (by rfl) (fun w' hw' => ?_) ?_ ?_; rotate_left 2; (· go_simp; with_reducible rfl); (· simp only [Act.put, zzA, zz0, zzS]; rfl)))
      (first | (refine tr_off (a' := ?_) rfl rfl (by rfl) ?_ ?_; rotate_left 1; (· simp only [Act.put, zzA, zz0, zzS]; rfl)) | (refine tr_y (v := ?_) (a' := ?_) rfl rfl (by rfl) (fun w' hw' => ?_) ?_ ?_; rotate_left 2; (· go_simp; with_reducible rfl); (· simp only [Act.put, zzA, zz0, zzS]; rfl)))
      (first | (refine tr_off (a' := ?_) rfl rfl (by rfl) ?_ ?_; rotate_left 1; (· simp only [Act.put, zzA, zz0, zzS]; rfl)) | (refine tr_y (v := ?_) (a' := ?_) rfl rfl (by rfl) (fun w' hw' => ?_) ?_ ?_; rotate_left 2; (· go_simp; with_reducible rfl); (· simp only [Act.put, zzA, zz0, zzS]; rfl)))
      (first | (refine tr_off (a' := ?_) rfl rfl (by rfl) ?_ ?_; rotate_left 1; (· simp only [Act.put, zzA, zz0, zzS]; rfl)) | (refine tr_y (v := ?_) (a' := ?_) rfl rfl (by rfl) (fun w' hw' => ?_) ?_ ?_; rotate_left 2; (· go_simp; with_reducible rfl); (· simp only [Act.put, zzA, zz0, zzS]; rfl)))
      (first | (refine tr_off (a' := ?_) rfl rfl (by rfl) ?_ ?_; rotate_left 1; (· simp only [Act.put, zzA, zz0, zzS]; rfl)) | (refine tr_y (v := ?_) (a' := ?_) rfl rfl (by rfl) (fun w' hw' => ?_) ?_ ?_; rotate_left 2; (· go_simp; with_reducible rfl); (· simp only [Act.put, zzA, zz0, zzS]; rfl)))
      have b50 := Blk.new qc0 3 #[.int .i64 z.ver, .int .i64 z.pos, .int .i64 z.code]
      have ec1 : Ext qc0 (qc0.alloc (.cells #[.int .i64 z.ver, .int .i64 z.pos, .int .i64 z.code] 3)) := (Ext.refl _).alloc _
      have hYc1 := hYc0.trans ec1
      refine tr_value (v := ?_) (w1 := ?_) (a' := ?_) rfl rfl (by rfl) ?_ ?_ ?_ ?_
      rotate_left 3
      · go_simp; refine ⟨?_, ?_⟩ <;> with_reducible rfl
      · exact hYc1
      · simp only [Act.put, zzA, zz0, zzS]; rfl
      generalize qc0.alloc (.cells #[.int .i64 z.ver, .int .i64 z.pos, .int .i64 z.code] 3) = qc1 at b50 ec1 hYc1 ⊢
      generalize qc0.heap.size = g50 at b50 ⊢
      refine tr_call (args := ?_) rfl Tryz.func51 (by kernel_rfl) rfl (by rfl) rfl rfl ?_ ?_
      rotate_left 1
      · go_simp; rfl
      (with_reducible refine (rints3 (hO42.ext (ec0.trans ec1)).buf w.heap.size (Nat.le_trans hBS (Ext.le hYc1)) (by omega) z.ver z.pos z.code b50).mono ?_)
      rintro e qc2 ⟨u51, rfl, hO51, ec2⟩
      have hYc2 := hYc1.trans ec2
      refine ⟨_, _, rfl, hYc2, (by simp only [Act.put, zzA, zz0, zzS]; rfl), ?_⟩
      refine tr_call (args := ?_) rfl Tryz.func53 (by kernel_rfl) rfl (by rfl) rfl rfl ?_ ?_
      rotate_left 1
      · go_simp; rfl
      (with_reducible refine (hbl _ _ _ _ hO51.buf (by omega) hYc2).mono ?_)
      rintro e qc3 ⟨u54, rfl, hO54, ec3⟩
      have hYc3 := hYc2.trans ec3
      refine ⟨_, _, rfl, hYc3, (by simp only [Act.put, zzA, zz0, zzS]; rfl), ?_⟩
      (first | (refine tr_off (a' := ?_) rfl rfl (by rfl) ?_ ?_; rotate_left 1; (· simp only [Act.put, zzA, zz0, zzS]; rfl)) | (refine tr_y (v := ?_) (a' := ?_) rfl rfl (by rfl) (fun w' hw' => ?_) ?_ ?_; rotate_left 2; (· go_simp; with_reducible rfl); (· simp only [Act.put, zzA, zz0, zzS]; rfl)))
      refine tr_end ?_
      refine NoPanic.normal ?_
      have hOk : Hid (OwnN w.heap.size (1000 + 3145776 * (k + 1)) qc3 u54 (num8 x.code ++ (num8 x.num ++ (num8 p ++ (x.shown.take (k + 1)).flatMap shB)))) := Lib.hid ((hO54.re (by rw [HONE.out]; simp [shB])).wide (by omega))
      clear hO42 hO51 hO54
      go_wp2_with fail
      go_roundw
      case rel => exact ⟨k + 1, by omega, by go_num, hOk.out, (hwr.trans hES).trans hYc3⟩
      case measure => simp [intOf]; omega
    · obtain rfl : k = p := by omega
      have htk : x.shown.take k = x.shown := List.take_of_length_le (by rw [HPL.out]; omega)
      rw [htk] at hO
      have hO := hO.wide (N' := 314600000) (by omega)
      clear hSH htk
      go_upto_region 11 with fail
      clear y2
      apply key4 (F := fun (g62 : Nat) (u58 u63 : Value) (wx : World) => OwnN w.heap.size 424700000 wx u63 (num8 x.code ++ (num8 x.num ++ (num8 k ++ (x.shown.flatMap shB ++ (tokB x.tok ++ num8 r))))) ∧ Ext W wx)
      · intro key
        refine wp_region_noPanic ?_
        refine tr_start (.y 0 (.y 1 (.y 2 (.y 4 (.y 5 (.y 6 (.two 3 7 (.e 7 (.e 8 (.y 9 .nil))) (.e 3 (.e 8 (.y 9 .nil)))))))))) (fun w' => Ext W w') (by kernel_rfl) (by as_aux_lemma => kernel_rfl) (fun _ _ _ _ _ h => h) (by (repeat (first | assumption | exact Ext.refl _ | refine Ext.drew ?_ | refine Ext.alloc ?_ _ | refine Ext.drewN ?_ _ | refine Ext.trans ?_ (by assumption)))) ?_
        have e0 : Ext wr wr.drew := (Ext.refl _).drew
        generalize wr.drew = q0 at e0 ⊢
        have hY0 := hwr.trans e0
        (first | (refine tr_off (a' := ?_) rfl rfl (by rfl) ?_ ?_; rotate_left 1; (· simp only [Act.put, zzA, zz0, zzS]; rfl)) | (refine tr_y (v := ?_) (a' := ?_) rfl rfl (by rfl) (fun w' hw' => ?_) ?_ ?_; rotate_left 2; (· go_simp; with_reducible rfl); (· simp only [Act.put, zzA, zz0, zzS]; rfl)))
        (first | (refine tr_off (a' := ?_) rfl rfl (by rfl) ?_ ?_; rotate_left 1; (· simp only [Act.put, zzA, zz0, zzS]; rfl)) | (refine tr_y (v := ?_) (a' := ?_) rfl rfl (by rfl) (fun w' hw' => ?_) ?_ ?_; rotate_left 2; (· go_simp; with_reducible rfl); (· simp only [Act.put, zzA, zz0, zzS]; rfl)))
        refine tr_y (v := ?_) (a' := ?_) rfl rfl (by rfl) (fun w' hw' => ?_) ?_ ?_
        rotate_left 2
        · (refine (run_op_load rfl ?_ (l1 w' hw')).trans ?_; (· rfl); (· with_reducible rfl))
        · simp only [Act.put, zzA, zz0, zzS]; rfl
        (first | (refine tr_off (a' := ?_) rfl rfl (by rfl) ?_ ?_; rotate_left 1; (· simp only [Act.put, zzA, zz0, zzS]; rfl)) | (refine tr_y (v := ?_) (a' := ?_) rfl rfl (by rfl) (fun w' hw' => ?_) ?_ ?_; rotate_left 2; (· go_simp; with_reducible rfl); (· simp only [Act.put, zzA, zz0, zzS]; rfl)))
        (first | (refine tr_off (a' := ?_) rfl rfl (by rfl) ?_ ?_; rotate_left 1; (· simp only [Act.put, zzA, zz0, zzS]; rfl)) | (refine tr_y (v := ?_) (a' := ?_) rfl rfl (by rfl) (fun w' hw' => ?_) ?_ ?_; rotate_left 2; (· go_simp; with_reducible rfl); (· simp only [Act.put, zzA, zz0, zzS]; rfl)))
        (first | (refine tr_off (a' := ?_) rfl rfl (by rfl) ?_ ?_; rotate_left 1; (· simp only [Act.put, zzA, zz0, zzS]; rfl)) | (refine tr_y (v := ?_) (a' := ?_) rfl rfl (by rfl) (fun w' hw' => ?_) ?_ ?_; rotate_left 2; (· go_simp; with_reducible rfl); (· simp only [Act.put, zzA, zz0, zzS]; rfl)))
        refine tr_two ?_ ?_
        · refine tr_call (args := ?_) rfl Tryz.func50 (by kernel_rfl) rfl (by rfl) rfl rfl ?_ ?_
          rotate_left 1
          · go_simp; rfl
          (with_reducible refine (htp _ _ _ _ (hO.ext e0).buf (by decide) hY0).mono ?_)
          rintro e q1 ⟨u58, rfl, hO58, e1⟩
          have hY1 := hY0.trans e1
          refine ⟨_, _, rfl, hY1, (by simp only [Act.put, zzA, zz0, zzS]; rfl), ?_⟩
          have b62 := Blk.new q1 3 #[.int .i64 r]
          have e2 : Ext q1 (q1.alloc (.cells #[.int .i64 r] 3)) := (Ext.refl _).alloc _
          have hY2 := hY1.trans e2
          refine tr_value (v := ?_) (w1 := ?_) (a' := ?_) rfl rfl (by rfl) ?_ ?_ ?_ ?_
          rotate_left 3
          · go_simp; refine ⟨?_, ?_⟩ <;> with_reducible rfl
          · exact hY2
          · simp only [Act.put, zzA, zz0, zzS]; rfl
          generalize q1.alloc (.cells #[.int .i64 r] 3) = q2 at b62 e2 hY2 ⊢
          generalize q1.heap.size = g62 at b62 ⊢
          refine tr_call (args := ?_) rfl Tryz.func51 (by kernel_rfl) rfl (by rfl) rfl rfl ?_ ?_
          rotate_left 1
          · go_simp; rfl
          (with_reducible refine (rints1 (hO58.ext e2).buf w.heap.size (Nat.le_trans hB (Ext.le hY2)) (by decide) r b62).mono ?_)
          rintro e q3 ⟨u63, rfl, hO63, e3⟩
          have hY3 := hY2.trans e3
          refine ⟨_, _, rfl, hY3, (by simp only [Act.put, zzA, zz0, zzS]; rfl), ?_⟩
          (first | (refine tr_off (a' := ?_) rfl rfl (by rfl) ?_ ?_; rotate_left 1; (· simp only [Act.put, zzA, zz0, zzS]; rfl)) | (refine tr_y (v := ?_) (a' := ?_) rfl rfl (by rfl) (fun w' hw' => ?_) ?_ ?_; rotate_left 2; (· go_simp; with_reducible rfl); (· simp only [Act.put, zzA, zz0, zzS]; rfl)))
          refine tr_end ?_
          (refine NoPanic.normal ?_; exact key g62 u58 u63 q3 ⟨(hO63.re (by simp)).wide (by decide), hY3⟩)
        · have b62 := Blk.new q0 3 #[.int .i64 r]
          have e1 : Ext q0 (q0.alloc (.cells #[.int .i64 r] 3)) := (Ext.refl _).alloc _
          have hY1 := hY0.trans e1
          refine tr_value (v := ?_) (w1 := ?_) (a' := ?_) rfl rfl (by rfl) ?_ ?_ ?_ ?_
          rotate_left 3
          · go_simp; refine ⟨?_, ?_⟩ <;> with_reducible rfl
          · exact hY1
          · simp only [Act.put, zzA, zz0, zzS]; rfl
          generalize q0.alloc (.cells #[.int .i64 r] 3) = q1 at b62 e1 hY1 ⊢
          generalize q0.heap.size = g62 at b62 ⊢
          refine tr_call (args := ?_) rfl Tryz.func50 (by kernel_rfl) rfl (by rfl) rfl rfl ?_ ?_
          rotate_left 1
          · go_simp; rfl
          (with_reducible refine (htp _ _ _ _ (hO.ext (e0.trans e1)).buf (by decide) hY1).mono ?_)
          rintro e q2 ⟨u58, rfl, hO58, e2⟩
          have hY2 := hY1.trans e2
          refine ⟨_, _, rfl, hY2, (by simp only [Act.put, zzA, zz0, zzS]; rfl), ?_⟩
          refine tr_call (args := ?_) rfl Tryz.func51 (by kernel_rfl) rfl (by rfl) rfl rfl ?_ ?_
          rotate_left 1
          · go_simp; rfl
          (with_reducible refine (rints1 hO58.buf w.heap.size (Nat.le_trans hB (Ext.le hY2)) (by decide) r (b62.ext e2)).mono ?_)
          rintro e q3 ⟨u63, rfl, hO63, e3⟩
          have hY3 := hY2.trans e3
          refine ⟨_, _, rfl, hY3, (by simp only [Act.put, zzA, zz0, zzS]; rfl), ?_⟩
          (first | (refine tr_off (a' := ?_) rfl rfl (by rfl) ?_ ?_; rotate_left 1; (· simp only [Act.put, zzA, zz0, zzS]; rfl)) | (refine tr_y (v := ?_) (a' := ?_) rfl rfl (by rfl) (fun w' hw' => ?_) ?_ ?_; rotate_left 2; (· go_simp; with_reducible rfl); (· simp only [Act.put, zzA, zz0, zzS]; rfl)))
          refine tr_end ?_
          (refine NoPanic.normal ?_; exact key g62 u58 u63 q3 ⟨(hO63.re (by simp)).wide (by decide), hY3⟩)
      intro g62 u58 u63 wx hkey
      obtain ⟨hO4, hY4⟩ := hkey
      clear hO hwr
      go_wp2_with fail
      go_loopw [5, 8] (fun s i wq => ∃ j : Nat, j ≤ r ∧ i = .int .i64 j ∧ OwnN w.heap.size (424700000 + 2097240 * j) wq s (num8 x.code ++ (num8 x.num ++ (num8 k ++ (x.shown.flatMap shB ++ (tokB x.tok ++ (num8 r ++ (x.ents.take j).flatMap enB)))))) ∧ Ext W wq) (fun _ i _ => r - (intOf i).toNat)
      case atStart => exact ⟨0, by omega, rfl, by simpa using hO4, hY4⟩
      case round =>
        clear hO4 hY4
        obtain ⟨j, hjn, rfl, hO, hwq⟩ := hrel
        have y38 := xr38 _ hwq
        by_cases hlt : j < r
        · obtain ⟨b, o, rfl⟩ := el_addr hSE j hlt
          have hl2 := HRL.out
          obtain ⟨z, hz'⟩ : ∃ z, x.ents[j]? = some z := ⟨_, List.getElem?_eq_getElem (by omega)⟩
          obtain ⟨hkl, hzl⟩ := List.getElem?_eq_some_iff.1 hz'
          obtain ⟨cs, hK, rx⟩ := el_loadK (hSE.ext hwq) j z hz' 72 _ Tryz.underlying72 rfl (by kernel_rfl)
          simp only [show rdEn.sz = 39 from rfl] at rx
          obtain rfl := en_cells hK
          have hfz := hf.en z (by rw [← hzl]; exact List.getElem_mem hkl)
          have hone := flat_enc enB x.ents j hkl
          rw [hzl] at hone
          obtain ⟨wS, hrS, BS, hXS⟩ := store_part (Blk.new wr 72 #[.int .i64 0, .int .i64 0, .int .i64 0, .int .i64 0, .int .i64 0, .string ⟨#[]⟩, .string ⟨#[]⟩, .int .u8 0, .int .u8 0, .int .u8 0, .int .u8 0, .int .u8 0, .int .u8 0, .int .u8 0, .int .u8 0, .int .u8 0, .int .u8 0, .int .u8 0, .int .u8 0, .int .u8 0, .int .u8 0, .int .u8 0, .int .u8 0, .int .u8 0, .int .u8 0, .int .u8 0, .int .u8 0, .int .u8 0, .int .u8 0, .int .u8 0, .int .u8 0, .int .u8 0, .int .u8 0, .int .u8 0, .int .u8 0, .int .u8 0, .int .u8 0, .int .u8 0, .int .u8 0]) 0 (enA z) [] [.int .i64 0, .int .i64 0, .int .i64 0, .int .i64 0, .int .i64 0, .string ⟨#[]⟩, .string ⟨#[]⟩, .int .u8 0, .int .u8 0, .int .u8 0, .int .u8 0, .int .u8 0, .int .u8 0, .int .u8 0, .int .u8 0, .int .u8 0, .int .u8 0, .int .u8 0, .int .u8 0, .int .u8 0, .int .u8 0, .int .u8 0, .int .u8 0, .int .u8 0, .int .u8 0, .int .u8 0, .int .u8 0, .int .u8 0, .int .u8 0, .int .u8 0, .int .u8 0, .int .u8 0, .int .u8 0, .int .u8 0, .int .u8 0, .int .u8 0, .int .u8 0, .int .u8 0, .int .u8 0] [] rfl rfl rfl 72 (by kernel_rfl) (one_enA _)
          have BS : Blk wS wr.heap.size 72 (enA z) := by simpa using BS
          have hES : Ext wr wS := Exc.ext ((Ext.refl _).alloc _) hXS (Nat.le_refl _)
          have rxa := rx _ (Ext.refl _)
          rw [Array.toArray_toList] at rxa
          have hBS : w.heap.size ≤ wS.heap.size := Nat.le_trans hB (Nat.le_trans hwq.le hES.le)
          have sc0 := BS.cell 0 (v := .int .i64 z.no) rfl
          have sr0 := fun (w' : World) (h : Ext wS w') => h.cellk sc0
          have sc1 := BS.cell 1 (v := .int .i64 z.clock) rfl
          have sr1 := fun (w' : World) (h : Ext wS w') => h.cellk sc1
          have sc2 := BS.cell 2 (v := .int .i64 z.kind) rfl
          have sr2 := fun (w' : World) (h : Ext wS w') => h.cellk sc2
          have sc3 := BS.cell 3 (v := .int .i64 z.code) rfl
          have sr3 := fun (w' : World) (h : Ext wS w') => h.cellk sc3
          have sc4 := BS.cell 4 (v := .int .i64 z.id) rfl
          have sr4 := fun (w' : World) (h : Ext wS w') => h.cellk sc4
          have sc5 := BS.cell 5 (v := .string z.st) rfl
          have sr5 := fun (w' : World) (h : Ext wS w') => h.cellk sc5
          have sc6 := BS.cell 6 (v := .string z.su) rfl
          have sr6 := fun (w' : World) (h : Ext wS w') => h.cellk sc6
          have lm := fun (w' : World) (e : Ext wS w') => load_part (BS.ext e) 7 (macA z.sum) [.int .i64 z.no, .int .i64 z.clock, .int .i64 z.kind, .int .i64 z.code, .int .i64 z.id, .string z.st, .string z.su] [] rfl rfl 24 _ Tryz.underlying24 rfl (by kernel_rfl)
          have hsm := fun (N' : Nat) (w' : World) (v' : Value) (L' : List UInt8) (h1 : Buf N' w' v' L') (h2 : N' ≤ 1000000000) (e : Ext wS w') => @rsumL N' w' v' L' h1 h2 w.heap.size (Nat.le_trans hBS e.le) z.sum hfz.sum
          generalize macA z.sum = M at lm hsm
          generalize enA z = C2 at rxa hrS
          have hOS := hO.ext hES
          have HONE := Lib.hid hone
          have hi16 := fun (w' : World) (g : Nat) (bk : Blk w' g 3 #[.int .i64 z.no, .int .i64 z.clock, .int .i64 z.kind, .int .i64 z.code, .int .i64 z.id]) (e : Ext wS w') => rints5 (hOS.ext e).buf w.heap.size (Nat.le_trans hBS e.le) (by omega) z.no z.clock z.kind z.code z.id bk
          clear hK hz' hl2 hXS BS hzl hkl rx hone hO
          have hz16 := hi16 _ _ (Blk.new wS _ _) ((Ext.refl _).alloc _)
          go_upto_region 16 with (first | (refine wpList_load_by rfl rfl ?_ rxa ?_; (· rfl)) | (refine wpList_store_by rfl rfl ?_ ?_ hrS ?_; (· rfl); (· rfl)))
          clear rxa hrS y38
          go_upto_region 17 with (go_at_call 51; (with_reducible refine hz16.mono ?_); rintro e w5 ⟨v5, rfl, hO5, hE5⟩)
          have hY5 := (((Ext.refl wS).alloc (.cells #[.int .i64 z.no, .int .i64 z.clock, .int .i64 z.kind, .int .i64 z.code, .int .i64 z.id] 3)).trans hE5)
          clear hi16 hz16 hOS sc0 sc1 sc2 sc3 sc4 sc5 sc6
          refine wp_region_noPanic ?_
          refine tr_start (.y 0 (.y 1 (.y 2 (.y 4 (.y 5 (.y 7 (.y 8 (.e 3 (.e 6 (.e 9 (.y 10 .nil))))))))))) (fun w' => Ext wS w') (by kernel_rfl) (by as_aux_lemma => kernel_rfl) (fun _ _ _ _ _ h => h) (by (repeat (first | assumption | exact Ext.refl _ | refine Ext.drew ?_ | refine Ext.alloc ?_ _ | refine Ext.drewN ?_ _ | refine Ext.trans ?_ (by assumption)))) ?_
          have ed0 : Ext w5 w5.drew := (Ext.refl _).drew
          generalize w5.drew = qd0 at ed0 ⊢
          have hYd0 := hY5.trans ed0
          (first | (refine tr_off (a' := ?_) rfl rfl (by rfl) ?_ ?_; rotate_left 1; (· simp only [Act.put, zzA, zz0, zzS]; rfl)) | (refine tr_y (v := ?_) (a' := ?_) rfl rfl (by rfl) (fun w' hw' => ?_) ?_ ?_; rotate_left 2; (· go_simp; with_reducible rfl); (· simp only [Act.put, zzA, zz0, zzS]; rfl)))
          (first | (refine tr_off (a' := ?_) rfl rfl (by rfl) ?_ ?_; rotate_left 1; (· simp only [Act.put, zzA, zz0, zzS]; rfl)) | (refine tr_y (v := ?_) (a' := ?_) rfl rfl (by rfl) (fun w' hw' => ?_) ?_ ?_; rotate_left 2; (· go_simp; with_reducible rfl); (· simp only [Act.put, zzA, zz0, zzS]; rfl)))
          (first | (refine tr_off (a' := ?_) rfl rfl (by rfl) ?_ ?_; rotate_left 1; (· simp only [Act.put, zzA, zz0, zzS]; rfl)) | (refine tr_y (v := ?_) (a' := ?_) rfl rfl (by rfl) (fun w' hw' => ?_) ?_ ?_; rotate_left 2; (· go_simp; with_reducible rfl); (· simp only [Act.put, zzA, zz0, zzS]; rfl)))
          (first | (refine tr_off (a' := ?_) rfl rfl (by rfl) ?_ ?_; rotate_left 1; (· simp only [Act.put, zzA, zz0, zzS]; rfl)) | (refine tr_y (v := ?_) (a' := ?_) rfl rfl (by rfl) (fun w' hw' => ?_) ?_ ?_; rotate_left 2; (· go_simp; with_reducible rfl); (· simp only [Act.put, zzA, zz0, zzS]; rfl)))
          (first | (refine tr_off (a' := ?_) rfl rfl (by rfl) ?_ ?_; rotate_left 1; (· simp only [Act.put, zzA, zz0, zzS]; rfl)) | (refine tr_y (v := ?_) (a' := ?_) rfl rfl (by rfl) (fun w' hw' => ?_) ?_ ?_; rotate_left 2; (· go_simp; with_reducible rfl); (· simp only [Act.put, zzA, zz0, zzS]; rfl)))
          (first | (refine tr_off (a' := ?_) rfl rfl (by rfl) ?_ ?_; rotate_left 1; (· simp only [Act.put, zzA, zz0, zzS]; rfl)) | (refine tr_y (v := ?_) (a' := ?_) rfl rfl (by rfl) (fun w' hw' => ?_) ?_ ?_; rotate_left 2; (· go_simp; with_reducible rfl); (· simp only [Act.put, zzA, zz0, zzS]; rfl)))
          refine tr_y (v := ?_) (a' := ?_) rfl rfl (by rfl) (fun w' hw' => ?_) ?_ ?_
          rotate_left 2
          · (refine (run_op_load rfl ?_ (lm w' hw')).trans ?_; (· rfl); (· with_reducible rfl))
          · simp only [Act.put, zzA, zz0, zzS]; rfl
          refine tr_call (args := ?_) rfl Tryz.func52 (by kernel_rfl) rfl (by rfl) rfl rfl ?_ ?_
          rotate_left 1
          · go_simp; rfl
          (with_reducible refine (rtextL (hO5.ext ed0).buf (by omega) w.heap.size (Nat.le_trans hBS (Ext.le hYd0)) z.st hfz.st).mono ?_)
          rintro e qd1 ⟨u92, rfl, hO92, ed1⟩
          have hYd1 := hYd0.trans ed1
          refine ⟨_, _, rfl, hYd1, (by simp only [Act.put, zzA, zz0, zzS]; rfl), ?_⟩
          refine tr_call (args := ?_) rfl Tryz.func52 (by kernel_rfl) rfl (by rfl) rfl rfl ?_ ?_
          rotate_left 1
          · go_simp; rfl
          (with_reducible refine (rtextL hO92.buf (by omega) w.heap.size (Nat.le_trans hBS (Ext.le hYd1)) z.su hfz.su).mono ?_)
          rintro e qd2 ⟨u95, rfl, hO95, ed2⟩
          have hYd2 := hYd1.trans ed2
          refine ⟨_, _, rfl, hYd2, (by simp only [Act.put, zzA, zz0, zzS]; rfl), ?_⟩
          refine tr_call (args := ?_) rfl Tryz.func78 (by kernel_rfl) rfl (by rfl) rfl rfl ?_ ?_
          rotate_left 1
          · go_simp; rfl
          (with_reducible refine (hsm _ _ _ _ hO95.buf (by omega) hYd2).mono ?_)
          rintro e qd3 ⟨u98, rfl, hO98, ed3⟩
          have hYd3 := hYd2.trans ed3
          refine ⟨_, _, rfl, hYd3, (by simp only [Act.put, zzA, zz0, zzS]; rfl), ?_⟩
          (first | (refine tr_off (a' := ?_) rfl rfl (by rfl) ?_ ?_; rotate_left 1; (· simp only [Act.put, zzA, zz0, zzS]; rfl)) | (refine tr_y (v := ?_) (a' := ?_) rfl rfl (by rfl) (fun w' hw' => ?_) ?_ ?_; rotate_left 2; (· go_simp; with_reducible rfl); (· simp only [Act.put, zzA, zz0, zzS]; rfl)))
          refine tr_end ?_
          refine NoPanic.normal ?_
          have hOk : Hid (OwnN w.heap.size (424700000 + 2097240 * (j + 1)) qd3 u98 (num8 x.code ++ (num8 x.num ++ (num8 k ++ (x.shown.flatMap shB ++ (tokB x.tok ++ (num8 r ++ (x.ents.take (j + 1)).flatMap enB))))))) := Lib.hid ((hO98.re (by rw [HONE.out]; simp [enB])).wide (by omega))
          clear hO5 hO92 hO95 hO98
          go_wp2_with fail
          go_roundw
          case rel => exact ⟨j + 1, by omega, by go_num, hOk.out, (hwq.trans hES).trans hYd3⟩
          case measure => simp [intOf]; omega
        · obtain rfl : j = r := by omega
          have htk : x.ents.take j = x.ents := List.take_of_length_le (by rw [HRL.out]; omega)
          rw [htk] at hO
          clear hSE htk
          go_wp2_with fail
          rw [← HP.out]
          exact ⟨fun h => absurd hz h, fun _ => ⟨_, rfl, (hO.re (by simp [ansB, HPL.out, HRL.out])).wide (by omega)⟩, hE.trans hwq⟩
end Go.Proofs.YtgfhbachgniipaaGreatDoor

namespace Go.Proofs.YtgfhbachgniipaaGreatDoor
open Go.RowKit
attribute [local go_sem high] run_mx3
def ShSmall (y : Shn) : Prop := y.st.size ≤ 2048 ∧ y.su.size ≤ 2048 ∧ y.body.length ≤ 2048
def EnSmall (y : Ent) : Prop := y.st.size ≤ 2048 ∧ y.su.size ≤ 2048
structure AnsSmall (x : Ans) : Prop where
  tok : TokSmall x.tok
  m : x.shown.length ≤ 80
  k : x.ents.length ≤ 80
  sh : ∀ y ∈ x.shown, ShSmall y
  en : ∀ y ∈ x.ents, EnSmall y
theorem snoc_all {α : Type} {Q : α → Prop} {l : List α} {k : Nat} {x : α} (hk : k < l.length) (hx : l[k] = x) (h : ∀ y ∈ l.take k, Q y) (h2 : Q x) : ∀ y ∈ l.take (k + 1), Q y := by
  rw [List.take_succ_eq_append_getElem hk, hx]
  intro y hy
  rcases List.mem_append.1 hy with hy | hy
  · exact h y hy
  · obtain rfl : y = x := by simpa using hy
    exact h2
set_option maxHeartbeats 9000000 in
set_option maxRecDepth 100000 in
theorem great_any (w : World) (x : Ans) (s a e : Value) (hH : HsV w x.shown s) (hG : GsV w x.tok.gs a) (hN : EsV w x.ents e) (hn : x.tok.gs.length ≤ 9223372036854775807) (hm : x.shown.length ≤ 9223372036854775807) (hk : x.ents.length ≤ 9223372036854775807) (hb : ∀ y ∈ x.shown, y.body.length ≤ 9223372036854775807) :
    Calls Tryz.prog 19 #[.agg (ansA x s a e)] w (BigP w (AnsSmall x)) := by
  have hwd := fun (w' : World) (h : Ext w w') => wide_any w' x.tok a (hG.ext h) hn
  obtain ⟨A1, c1, rfl, h1c, hSH⟩ := id hH
  obtain ⟨A2, c2, rfl, h2c, hSE⟩ := id hN
  obtain ⟨p, hp⟩ : ∃ p, x.shown.length = p := ⟨_, rfl⟩
  obtain ⟨r, hr⟩ : ∃ r, x.ents.length = r := ⟨_, rfl⟩
  rw [hp] at hSH h1c hm ⊢
  rw [hr] at hSE h2c hk ⊢
  obtain ⟨W, hW, hE, bx⟩ := box1 w (ansA x (.slice A1 p c1) a (.slice A2 r c2)) 46
  have B1 : Blk W w.heap.size 46 (ansA x (.slice A1 p c1) a (.slice A2 r c2)) := by rw [hW]; exact Blk.new _ _ _
  have l1 := load_part B1 3 (tokA x.tok a) [.int .i64 x.code, .int .i64 x.num, .slice A1 p c1] [.slice A2 r c2] rfl rfl 26 _ Tryz.underlying26 rfl (by kernel_rfl)
  have x2 : W.cell? ⟨w.heap.size, 2, none⟩ = some (.slice A1 p c1) := bx 2 _ rfl
  have xr2 := fun (w' : World) (h : Ext W w') => h.cellk x2
  clear x2
  have x38 : W.cell? ⟨w.heap.size, 38, none⟩ = some (.slice A2 r c2) := bx 38 _ rfl
  have xr38 := fun (w' : World) (h : Ext W w') => h.cellk x38
  clear x38
  have HPL := Lib.hid hp
  have HRL := Lib.hid hr
  have hSH := hSH.ext hE
  have hSE := hSE.ext hE
  obtain ⟨P, hPP⟩ : ∃ P, BigP w (AnsSmall x) = P := ⟨_, rfl⟩
  rw [hPP]
  have HP := Lib.hid hPP
  generalize ansA x (.slice A1 p c1) a (.slice A2 r c2) = C at *
  generalize tokA x.tok a = T at *
  clear hp hr hH hG hN B1 bx hPP
  obtain ⟨b1, g1⟩ : ∃ b, decide ((80 : Int) < (p : Int)) = b := ⟨_, rfl⟩
  obtain ⟨b2, g2⟩ : ∃ b, decide ((80 : Int) < (r : Int)) = b := ⟨_, rfl⟩
  go_enter Tryz.func19, Tryz.ntmps19
  go_upto_region 1 with fail
  rw [← hW]
  clear hW
  refine wp_region_lit ?_
  iterate 1 (first | (refine pl_off (a' := ?_) rfl (by rfl) ?_ ?_; rotate_left 1; (· simp only [Act.put, zzA, zz0, zzS]; rfl)) | (refine pl_y (v := ?_) (a' := ?_) rfl (by rfl) ?_ ?_ ?_; rotate_left 2; (· go_simp; with_reducible rfl); (· simp only [Act.put, zzA, zz0, zzS]; rfl)))
  refine pl_y (v := ?_) (a' := ?_) rfl (by rfl) ?_ ?_ ?_
  rotate_left 2
  · (refine (run_op_load rfl ?_ (l1)).trans ?_; (· rfl); (· with_reducible rfl))
  · simp only [Act.put, zzA, zz0, zzS]; rfl
  refine pl_call (args := ?_) Tryz.func42 (by kernel_rfl) rfl (by rfl) rfl rfl ?_ ?_
  rotate_left 1
  · go_simp; with_reducible rfl
  (with_reducible refine (hwd W hE).mono ?_)
  rintro e w1 ⟨v1, rfl, hv1, hE1⟩
  refine ⟨_, _, rfl, (by simp only [Act.put, zzA, zz0, zzS]; rfl), ?_⟩
  have HV1 := Lib.hid hv1
  clear hv1 hwd l1
  cases v1
  rotate_left 1
  · iterate 12 (first | (refine pl_off (a' := ?_) rfl (by rfl) ?_ ?_; rotate_left 1; (· simp only [Act.put, zzA, zz0, zzS]; rfl)) | (refine pl_y (v := ?_) (a' := ?_) rfl (by rfl) ?_ ?_ ?_; rotate_left 2; (· go_simp; with_reducible rfl); (· simp only [Act.put, zzA, zz0, zzS]; rfl)))
    refine wpList_nil ?_
    go_wp2_with fail
    rw [← HP.out]
    exact bigP_true (hE.trans hE1)
  cases b1
  rotate_left 1
  · iterate 12 (first | (refine pl_off (a' := ?_) rfl (by rfl) ?_ ?_; rotate_left 1; (· simp only [Act.put, zzA, zz0, zzS]; rfl)) | (refine pl_y (v := ?_) (a' := ?_) rfl (by rfl) ?_ ?_ ?_; rotate_left 2; (· go_simp; with_reducible rfl); (· simp only [Act.put, zzA, zz0, zzS]; rfl)))
    refine wpList_nil ?_
    go_wp2_with fail
    rw [← HP.out]
    exact bigP_true (hE.trans hE1)
  cases b2
  rotate_left 1
  · iterate 12 (first | (refine pl_off (a' := ?_) rfl (by rfl) ?_ ?_; rotate_left 1; (· simp only [Act.put, zzA, zz0, zzS]; rfl)) | (refine pl_y (v := ?_) (a' := ?_) rfl (by rfl) ?_ ?_ ?_; rotate_left 2; (· go_simp; with_reducible rfl); (· simp only [Act.put, zzA, zz0, zzS]; rfl)))
    refine wpList_nil ?_
    go_wp2_with fail
    rw [← HP.out]
    exact bigP_true (hE.trans hE1)
  iterate 12 (first | (refine pl_off (a' := ?_) rfl (by rfl) ?_ ?_; rotate_left 1; (· simp only [Act.put, zzA, zz0, zzS]; rfl)) | (refine pl_y (v := ?_) (a' := ?_) rfl (by rfl) ?_ ?_ ?_; rotate_left 2; (· go_simp; with_reducible rfl); (· simp only [Act.put, zzA, zz0, zzS]; rfl)))
  refine wpList_nil ?_
  have hp80 : p ≤ 80 := by simp at g1; omega
  have hr80 : r ≤ 80 := by simp at g2; omega
  clear g1 g2
  go_wp2_with fail
  go_loopw [3] (fun i wr => ∃ k : Nat, k ≤ p ∧ i = .int .i64 k ∧ (∀ y ∈ x.shown.take k, ShSmall y) ∧ Ext W wr) (fun i _ => p - (intOf i).toNat)
  case atStart => exact ⟨0, by omega, rfl, (fun y hy => by simp at hy), hE1⟩
  case round =>
    clear hE1
    obtain ⟨k, hkn, rfl, hall, hwr⟩ := hrel
    have y2 := fun (w' : World) (e : Ext wr w') => xr2 w' (hwr.trans e)
    have y2a := xr2 _ hwr
    by_cases hlt : k < p
    · obtain ⟨b, o, cs, rfl, hK, hcell⟩ := (hSH.ext hwr).get k hlt
      have hl1 := HPL.out
      obtain ⟨z, hz⟩ : ∃ z, x.shown[k]'(by omega) = z := ⟨_, rfl⟩
      have hbz := hb z (by rw [← hz]; exact List.getElem_mem _)
      have hsn := fun h2 => snoc_all (Q := ShSmall) (by omega) hz hall h2
      rw [hz] at hK
      obtain ⟨bv, rfl, A3, c3, rfl, h3c, -⟩ := sh_cells hK
      have q0 := hcell 0 (.string z.st) rfl
      have q1 := hcell 1 (.string z.su) rfl
      have q5 := hcell 5 (.slice A3 z.body.length c3) rfl
      simp only [show rdSh.sz = 6 from rfl, Nat.add_zero] at q0 q1 q5
      have e0 := fun (w' : World) (e : Ext wr w') => e.cellk q0
      have e1 := fun (w' : World) (e : Ext wr w') => e.cellk q1
      have e5 := fun (w' : World) (e : Ext wr w') => e.cellk q5
      have hsm : ¬ (2048 < mx3 (z.st.size : Int) (z.su.size : Int) (z.body.length : Int)) → ShSmall z := fun h => by
        unfold ShSmall
        have := mx3_lt (z.st.size : Int) (z.su.size : Int) (z.body.length : Int) 2048
        omega
      have HS := Lib.hid hsm
      have HSN := Lib.hid hsn
      generalize z.body.length = nb at *
      generalize z.st = s1 at *
      generalize z.su = s2 at *
      have hY := Ext.refl wr
      clear hSH hK hl1 hz hall hsm hsn hcell q0 q1 q5
      go_upto_region 6 with fail
      by_cases hg : 2048 < mx3 (s1.size : Int) (s2.size : Int) (nb : Int)
      · refine st_start (fun _ w' => Ext wr w') (fun _ => false) (by kernel_rfl) (by kernel_rfl) (by (repeat (first | assumption | exact Ext.refl _ | refine Ext.drew ?_ | refine Ext.alloc ?_ _ | refine Ext.drewN ?_ _ | refine Ext.trans ?_ (by assumption)))) ?_
        iterate 23 (first | (refine st_off (a' := ?_) rfl (by rfl) rfl ?_ ?_; rotate_left 1; (· simp only [Act.put, zzA, zz0, zzS]; rfl)) | (refine st_y (v := ?_) (a' := ?_) rfl (by rfl) rfl (fun k w' hw' => ?_) ?_ ?_; rotate_left 2; (· go_simp; with_reducible rfl); (· simp only [Act.put, zzA, zz0, zzS]; rfl)))
        refine st_end ?_
        intro w2 hY2
        go_wp2_with fail
        rw [← HP.out]
        exact bigP_true (hE.trans (hwr.trans hY2))
      · have HG := Lib.hid hg
        refine st_start (fun _ w' => Ext wr w') (fun _ => false) (by kernel_rfl) (by kernel_rfl) (by (repeat (first | assumption | exact Ext.refl _ | refine Ext.drew ?_ | refine Ext.alloc ?_ _ | refine Ext.drewN ?_ _ | refine Ext.trans ?_ (by assumption)))) ?_
        iterate 23 (first | (refine st_off (a' := ?_) rfl (by rfl) rfl ?_ ?_; rotate_left 1; (· simp only [Act.put, zzA, zz0, zzS]; rfl)) | (refine st_y (v := ?_) (a' := ?_) rfl (by rfl) rfl (fun k w' hw' => ?_) ?_ ?_; rotate_left 2; (· go_simp; with_reducible rfl); (· simp only [Act.put, zzA, zz0, zzS]; rfl)))
        refine st_end ?_
        intro w2 hY2
        go_wp2_with fail
        go_roundw
        case rel => exact ⟨k + 1, by omega, by go_num, HSN.out (HS.out HG.out), hwr.trans hY2⟩
        case measure => simp [intOf]; omega
    · obtain rfl : k = p := by omega
      have HA : Hid (∀ y ∈ x.shown, ShSmall y) := Lib.hid (by rw [← HPL.out, List.take_length] at hall; exact hall)
      clear hSH hall y2
      go_wp2_with fail
      clear y2a
      go_loopw [4] (fun i wr => ∃ j : Nat, j ≤ r ∧ i = .int .i64 j ∧ (∀ y ∈ x.ents.take j, EnSmall y) ∧ Ext W wr) (fun i _ => r - (intOf i).toNat)
      case atStart => exact ⟨0, by omega, rfl, (fun y hy => by simp at hy), hwr⟩
      case round =>
        clear hwr
        obtain ⟨j, hjn, rfl, hall, hwr⟩ := hrel
        have y38 := fun (w' : World) (e : Ext wr w') => xr38 w' (hwr.trans e)
        have y38a := xr38 _ hwr
        by_cases hlt : j < r
        · obtain ⟨b, o, cs, rfl, hK, hcell⟩ := (hSE.ext hwr).get j hlt
          have hl1 := HRL.out
          obtain ⟨z, hz⟩ : ∃ z, x.ents[j]'(by omega) = z := ⟨_, rfl⟩
          have hsn := fun h2 => snoc_all (Q := EnSmall) (by omega) hz hall h2
          rw [hz] at hK
          obtain rfl := en_cells hK
          have q0 := hcell 5 (.string z.st) rfl
          have q1 := hcell 6 (.string z.su) rfl
          simp only [show rdEn.sz = 39 from rfl] at q0 q1
          have e0 := fun (w' : World) (e : Ext wr w') => e.cellk q0
          have e1 := fun (w' : World) (e : Ext wr w') => e.cellk q1
          have hsm : ¬ (2048 < max (z.st.size : Int) (z.su.size : Int)) → EnSmall z := fun h => by
            unfold EnSmall
            omega
          have HS := Lib.hid hsm
          have HSN := Lib.hid hsn
          generalize z.st = s1 at *
          generalize z.su = s2 at *
          have hY := Ext.refl wr
          clear hSE hK hl1 hz hall hsm hsn hcell q0 q1
          go_upto_region 11 with fail
          by_cases hg : 2048 < max (s1.size : Int) (s2.size : Int)
          · refine st_start (fun _ w' => Ext wr w') (fun _ => false) (by kernel_rfl) (by kernel_rfl) (by (repeat (first | assumption | exact Ext.refl _ | refine Ext.drew ?_ | refine Ext.alloc ?_ _ | refine Ext.drewN ?_ _ | refine Ext.trans ?_ (by assumption)))) ?_
            iterate 16 (first | (refine st_off (a' := ?_) rfl (by rfl) rfl ?_ ?_; rotate_left 1; (· simp only [Act.put, zzA, zz0, zzS]; rfl)) | (refine st_y (v := ?_) (a' := ?_) rfl (by rfl) rfl (fun k w' hw' => ?_) ?_ ?_; rotate_left 2; (· go_simp; with_reducible rfl); (· simp only [Act.put, zzA, zz0, zzS]; rfl)))
            refine st_end ?_
            intro w2 hY2
            go_wp2_with fail
            rw [← HP.out]
            exact bigP_true (hE.trans (hwr.trans hY2))
          · have HG := Lib.hid hg
            refine st_start (fun _ w' => Ext wr w') (fun _ => false) (by kernel_rfl) (by kernel_rfl) (by (repeat (first | assumption | exact Ext.refl _ | refine Ext.drew ?_ | refine Ext.alloc ?_ _ | refine Ext.drewN ?_ _ | refine Ext.trans ?_ (by assumption)))) ?_
            iterate 16 (first | (refine st_off (a' := ?_) rfl (by rfl) rfl ?_ ?_; rotate_left 1; (· simp only [Act.put, zzA, zz0, zzS]; rfl)) | (refine st_y (v := ?_) (a' := ?_) rfl (by rfl) rfl (fun k w' hw' => ?_) ?_ ?_; rotate_left 2; (· go_simp; with_reducible rfl); (· simp only [Act.put, zzA, zz0, zzS]; rfl)))
            refine st_end ?_
            intro w2 hY2
            go_wp2_with fail
            go_roundw
            case rel => exact ⟨j + 1, by omega, by go_num, HSN.out (HS.out HG.out), hwr.trans hY2⟩
            case measure => simp [intOf]; omega
        · obtain rfl : j = r := by omega
          have HB : Hid (∀ y ∈ x.ents, EnSmall y) := Lib.hid (by rw [← HRL.out, List.take_length] at hall; exact hall)
          clear hSE hall y38
          go_wp2_with fail
          rw [← HP.out]
          exact bigP_of rfl (fun _ => ⟨HV1.out (by trivial), by rw [HPL.out]; omega, by rw [HRL.out]; omega, HA.out, HB.out⟩) (hE.trans hwr)
end Go.Proofs.YtgfhbachgniipaaGreatDoor

namespace Go.Proofs.YtgfhbachgniipaaGreatDoor
open Go.RowKit
structure AnsCome (x : Ans) : Prop where
  n : x.tok.gs.length ≤ 140737488351232
  m : x.shown.length ≤ 140737488351232
  b : ∀ y ∈ x.shown, y.body.length ≤ 140737488351232
  k : x.ents.length ≤ 140737488351232
  ints : AnsInts x
theorem fitLA_of {x : Ans} (h : AnsSmall x) (hi : AnsInts x) : AnsFitL x := by
  have h1 := h.m
  have h2 := h.k
  have ht := h.tok
  refine ⟨⟨by have := ht.ten; omega, hi.tid, by have := ht.n; omega, fun g hg => ⟨(hi.gs g hg).1, by have := ht.p g hg; omega, (hi.gs g hg).2⟩, hi.mac⟩, hi.code, hi.num, by omega, fun y hy => ?_, by omega, fun y hy => ?_⟩
  · obtain ⟨k1, k2, k3⟩ := h.sh y hy
    obtain ⟨j1, j2, j3⟩ := hi.sh y hy
    exact ⟨by omega, by omega, j1, j2, j3, by omega⟩
  · obtain ⟨k1, k2⟩ := h.en y hy
    obtain ⟨⟨j1, j2, j3, j4, j5⟩, j6⟩ := hi.en y hy
    exact ⟨j1, j2, j3, j4, j5, by omega, by omega, j6⟩
theorem greatq_any (w : World) (c : Ans) (C : Array Value) (h : AnsAt w c C) (hi : AnsCome c) : Calls Tryz.prog 19 #[.agg C] w fun e w' => ∃ v, e = .returned (.bool v) ∧ (v = false → AnsFitL c) ∧ Ext w w' := by
  obtain ⟨s, a, e, rfl, h1, h2, h3⟩ := h
  refine (great_any w c s a e h1 h2 h3 (by have := hi.n; omega) (by have := hi.m; omega) (by have := hi.k; omega) (fun x hx => by have := hi.b x hx; omega)).mono ?_
  rintro e w' ⟨v, rfl, h3, h4⟩
  exact ⟨v, rfl, fun hv => fitLA_of (h3 hv) hi.ints, h4⟩
theorem shs_len {l : List Shn} (h : ∀ x ∈ l, ShFit x) : (l.flatMap shB).length ≤ l.length * 3145776 := flat_len shB 3145776 l fun x hx => by
  have := (h x hx).st
  have := (h x hx).su
  have := (h x hx).body
  unfold shB blobB
  simp only [List.length_append, num8_len, txtB_len]
  omega
theorem ens_len {l : List Ent} (h : ∀ x ∈ l, EnFit x) : (l.flatMap enB).length ≤ l.length * 2097240 := flat_len enB 2097240 l fun x hx => by
  have := (h x hx).st
  have := (h x hx).su
  have := (h x hx).sum
  unfold enB
  simp only [List.length_append, num8_len, txtB_len]
  omega
theorem ansB_len {x : Ans} (h : AnsFitL x) : (ansB x).length ≤ 4294967296 := by
  have h1 := gsl_len h.tok.g
  have h2 := shs_len h.sh
  have h3 := h.m
  have h4 := ens_len h.en
  have h5 := h.k
  have h7 := h.tok.n
  have h8 := h.tok.ten
  have h9 := h.tok.mac
  have h10 := Nat.mul_le_mul_right 1048608 h7
  have h11 := Nat.mul_le_mul_right 3145776 h3
  have h12 := Nat.mul_le_mul_right 2097240 h5
  unfold ansB tokB
  simp only [List.length_append, num8_len, txtB_len]
  omega
theorem putAB_len {x : Ans} (h : AnsFitL x) : (putAB x).length ≤ 4294967296 := by
  unfold putAB
  split
  · exact ansB_len h
  · simp
theorem AnsAt.only {w w' : World} {lo hi : Nat} {c : Ans} {C : Array Value} (h : AnsAt (only w lo hi) c C) (hE : Ext w w') (hh : hi ≤ w.heap.size) : AnsAt (only w' lo hi) c C := by
  rw [only_ext hE hh]; exact h
theorem acheckq_any (w : World) (c : Ans) (C : Array Value) (h : AnsAt w c C) (hl : AnsLen c) : Calls Tryz.prog 23 #[.agg C] w fun e w' => e = .returned (.int .i64 (ansG c)) ∧ Ext w w' := by
  obtain ⟨s, a, e, rfl, h1, h2, h3⟩ := h
  exact ansCheck_any w c s a e h1 h2 h3 hl
theorem racheckq_any (w : World) (c : Ans) (C : Array Value) (h : AnsAt w c C) (hl : AnsLen c) : Calls Tryz.prog 24 #[.agg C] w fun e w' => e = .returned (.int .i64 (ansG c)) ∧ Ext w w' := by
  obtain ⟨s, a, e, rfl, h1, h2, h3⟩ := h
  exact ransCheck_any w c s a e h1 h2 h3 hl
theorem raputq_any (w : World) (x : Ans) (C : Array Value) (h : AnsAt w x C) (hf : AnsFitL x) : Calls Tryz.prog 22 #[.agg C] w (PutQ w (putAB x) (ansG x)) := by
  obtain ⟨s, a, e, rfl, h1, h2, h3⟩ := h
  exact (raput_any w x s a e h1 h2 h3 hf).mono fun _ _ => putQ_A
theorem sameaq_any (w : World) (c : Ans) (C C' : Array Value) (h : AnsAt w c C) (h' : AnsAt w c C') (hl : AnsLen c) : Calls Tryz.prog 25 #[.agg C, .agg C'] w fun e w' => e = .returned (.bool true) ∧ Ext w w' := by
  obtain ⟨s, a, e, rfl, h1, h2, h3⟩ := h
  obtain ⟨s', a', e', rfl, h4, h5, h6⟩ := h'
  exact sameAnswer_any w c s a e s' a' e' h1 h2 h3 h4 h5 h6 hl
theorem copyaq_any (w : World) (c : Ans) (C : Array Value) (h : AnsAt w c C) (hf : AnsFitL c) : Calls Tryz.prog 20 #[.agg C] w fun e w' => ∃ C', e = .returned (.agg C') ∧ AnsAt (only w' w.heap.size w'.heap.size) c C' ∧ Ext w w' := by
  obtain ⟨s, a, e, rfl, h1, h2, h3⟩ := h
  refine (copyAnswer_any w c s a e h1 h2 h3 (by have := hf.tok.n; omega) (by have := hf.m; omega) (fun y hy => by have := (hf.sh y hy).body; omega) (by have := hf.k; omega)).mono ?_
  rintro e w' ⟨s', a', e', rfl, h4, h5, h6, hE⟩
  exact ⟨_, rfl, ⟨s', a', e', rfl, h4, h5, h6⟩, hE⟩
set_option maxHeartbeats 9000000 in
set_option maxRecDepth 100000 in
theorem answers_walk (w : World) (c : Ans) (C : Array Value) (hO : OfAt w) (h : AnsAt w c C) (hi : AnsCome c) :
    Calls Tryz.prog 4 #[.agg C] w fun e w' => e = .returned (.bool true) ∧ Ext w w' := by
  obtain ⟨hC1, hC2⟩ := h.row
  obtain ⟨W, hW, hE, bx⟩ := box1 w C 46
  have B1 : Blk W w.heap.size 46 C := by rw [hW]; exact Blk.new _ _ _
  have l0 := fun (w' : World) (e : Ext W w') => load_whole (B1.ext e) 46 _ Tryz.underlying46 rfl (by rw [hC1]; kernel_rfl)
  have hCW := fun (w' : World) (e : Ext W w') => h.ext (hE.trans e)
  have hOW := fun (w' : World) (e : Ext W w') => hO.ext (hE.trans e)
  have hwo := fun (w' : World) (e : Ext W w') => works_any w' (hOW w' e)
  have hbg := greatq_any W c C (hCW W (Ext.refl _)) hi
  clear bx h hO B1
  go_enter Tryz.func4, Tryz.ntmps4
  go_upto_region 1 with fail
  rw [← hW]
  clear hW
  refine wp_region_lit ?_
  refine pl_y (v := ?_) (a' := ?_) rfl (by rfl) ?_ ?_ ?_
  rotate_left 2
  · (refine (run_op_load rfl ?_ ((l0 _ (Ext.refl _)))).trans ?_; (· rfl); (· with_reducible rfl))
  · simp only [Act.put, zzA, zz0, zzS]; rfl
  refine pl_call (args := ?_) Tryz.func19 (by kernel_rfl) rfl (by rfl) rfl rfl ?_ ?_
  rotate_left 1
  · go_simp; with_reducible rfl
  (with_reducible refine (hbg).mono ?_)
  rintro e w1 ⟨v, rfl, hv, hE1⟩
  refine ⟨_, _, rfl, (by simp only [Act.put, zzA, zz0, zzS]; rfl), ?_⟩
  refine wpList_nil ?_
  cases v
  · have hf := hv rfl
    have hL := putAB_len hf
    have hck := fun (w' : World) (e : Ext W w') => acheckq_any w' c C (hCW w' e) hf.len
    have hrc := fun (w' : World) (e : Ext W w') => racheckq_any w' c C (hCW w' e) hf.len
    have hpu := fun (w' : World) (D : Array Value) (e : Ext W w') (hD : AnsAt w' c D) => aputq_any w' c D hD hf
    have hrp := fun (w' : World) (e : Ext W w') => raputq_any w' c C (hCW w' e) hf
    unfold PutQ at hpu hrp
    have hsb := fun (w' : World) n A1 c1 h1 h2 A2 c2 h3 h4 => samebq_any w' (putAB c) n A1 c1 h1 h2 hL A2 c2 h3 h4
    have hsp := fun (w' : World) lo hi n A1 c1 h1 h2 => spoilbq_any w' lo hi (putAB c) n A1 c1 h1 h2 hL
    have hcp := fun (w' : World) (e : Ext W w') => copyaq_any w' c C (hCW w' e) hf
    have hck2 := fun (w' : World) (D : Array Value) (e : Ext W w') (hD : AnsAt w' c D) => acheckq_any w' c D hD hf.len
    have hsc := fun (w' : World) (D : Array Value) (e : Ext W w') (hD : AnsAt w' c D) => sameaq_any w' c D C hD (hCW w' e) hf.len
    obtain ⟨cv, hcv⟩ : ∃ z, ansG c = z := ⟨_, rfl⟩
    obtain ⟨L, hLe⟩ : ∃ L, putAB c = L := ⟨_, rfl⟩
    rw [hcv] at hpu hrp hck hrc hck2
    rw [hLe] at hpu hrp hsb hsp
    clear hv hbg hcv hLe hL hCW
    go_upto_region 3 with fail
    refine wp_region_lit ?_
    refine pl_y (v := ?_) (a' := ?_) rfl (by rfl) ?_ ?_ ?_
    rotate_left 2
    · (refine (run_op_load rfl ?_ ((l0 _ hE1))).trans ?_; (· rfl); (· with_reducible rfl))
    · simp only [Act.put, zzA, zz0, zzS]; rfl
    refine pl_call (args := ?_) Tryz.func20 (by kernel_rfl) rfl (by rfl) rfl rfl ?_ ?_
    rotate_left 1
    · go_simp; with_reducible rfl
    (with_reducible refine (hcp _ hE1).mono ?_)
    rintro e w2 ⟨D, rfl, hD, hE2⟩
    refine ⟨_, _, rfl, (by simp only [Act.put, zzA, zz0, zzS]; rfl), ?_⟩
    obtain ⟨hD1, hD2⟩ := (hD.mono only_cle).row
    obtain ⟨V, hr, BV, hEV⟩ := box_row w2 46 #[.int .i64 0, .int .i64 0, .slice none 0 0, .string ⟨#[]⟩, .int .i64 0, .slice none 0 0, .int .u8 0, .int .u8 0, .int .u8 0, .int .u8 0, .int .u8 0, .int .u8 0, .int .u8 0, .int .u8 0, .int .u8 0, .int .u8 0, .int .u8 0, .int .u8 0, .int .u8 0, .int .u8 0, .int .u8 0, .int .u8 0, .int .u8 0, .int .u8 0, .int .u8 0, .int .u8 0, .int .u8 0, .int .u8 0, .int .u8 0, .int .u8 0, .int .u8 0, .int .u8 0, .int .u8 0, .int .u8 0, .int .u8 0, .int .u8 0, .int .u8 0, .int .u8 0, .slice none 0 0] D hD1.symm (by rw [hD1]; kernel_rfl) hD2
    have ld := fun (w' : World) (e : Ext V w') => load_whole (BV.ext e) 46 _ Tryz.underlying46 rfl (by rw [hD1]; kernel_rfl)
    have hV2 : w2.heap.size ≤ V.heap.size := hEV.le
    have hV1 : w1.heap.size ≤ w2.heap.size := hE2.le
    have hDV := fun (w' : World) (e : Ext V w') => (hD.only (hEV.trans e) (Nat.le_refl _)).mono only_cle
    have hWV : Ext W V := (hE1.trans hE2).trans hEV
    refine pl_v (v := ?_) (w1 := ?_) (a' := ?_) rfl (by rfl) ?_ ?_ ?_
    rotate_left 3
    · go_simp; refine ⟨?_, ?_⟩ <;> with_reducible rfl
    · simp only [Act.put, zzA, zz0, zzS]; rfl
    refine pl_store (by rfl) rfl (run_op_store rfl ?_ ?_ hr) ?_
    · rfl
    · rfl
    refine wpList_nil ?_
    clear hr BV hD1 hD2 hD hEV hE2 hcp
    go_upto_region 7 with (first | (refine wpList_load_by rfl rfl ?_ (ld _ (by (repeat (first | assumption | exact Ext.refl _ | refine Ext.set ?_ (Nat.le_refl _) _ | refine Ext.drew ?_ | refine Ext.alloc ?_ _ | refine Ext.drewN ?_ _ | refine Ext.trans ?_ (by assumption))))) ?_; (· rfl)) | (refine wpList_load_by rfl rfl ?_ (l0 _ (hWV.trans (by (repeat (first | assumption | exact Ext.refl _ | refine Ext.set ?_ (Nat.le_refl _) _ | refine Ext.drew ?_ | refine Ext.alloc ?_ _ | refine Ext.drewN ?_ _ | refine Ext.trans ?_ (by assumption)))))) ?_; (· rfl)) | (go_at_call 21; (with_reducible refine (hpu _ _ hWV (hDV _ (Ext.refl _))).mono ?_); rintro e w3 ⟨A3, n3, c3, rfl, hn3, hc3, -, hS3, hE3⟩; have hX3 : Ext V w3 := hE3) | (go_at_call 21; (with_reducible refine (hpu _ _ (hWV.trans hX3) (hDV _ hX3)).mono ?_); rintro e w4 ⟨A4, n4, c4, rfl, hn4, hc4, -, hS4, hE4⟩; have hX4 : Ext V w4 := hX3.trans hE4) | (go_at_call 22; (with_reducible refine (hrp _ (hWV.trans hX4)).mono ?_); rintro e w5 ⟨A5, n5, c5, rfl, hn5, hc5, -, hS5, hE5⟩; have hX5 : Ext V w5 := hX4.trans hE5))
    obtain rfl : n3 = n4 := hn3.symm.trans hn4
    obtain rfl : n3 = n5 := hn3.symm.trans hn5
    have q3 := only_sl hS3 (hE4.trans hE5) (Nat.le_refl _)
    have q4 := only_sl hS4 hE5 (Nat.le_refl _)
    have hl45 : w3.heap.size ≤ w5.heap.size := Nat.le_trans hE4.le hE5.le
    have hl34 : w3.heap.size ≤ w4.heap.size := hE4.le
    have hl5 : w4.heap.size ≤ w5.heap.size := hE5.le
    clear hn3 hn4 hn5 hS3 hS4 hX3 hX4 hE3 hE4 hE5
    have l0V := fun (w' : World) (e : Ext V w') => l0 w' (hWV.trans e)
    refine wp_region_noPanic ?_
    refine tr_start (.y 0 (.y 2 (.e 1 (.e 3 (.y 4 (.y 5 (.y 6 (.y 7 (.y 8 (.y 9 (.y 10 (.y 11 (.y 12 (.y 13 (.y 14 (.y 15 (.y 16 (.y 17 (.e 18 (.y 19 (.y 20 .nil))))))))))))))))))))) (fun w' => Ext V w') (by kernel_rfl) (by as_aux_lemma => kernel_rfl) (fun _ _ _ _ _ h => h) (by (repeat (first | assumption | exact Ext.refl _ | refine Ext.drew ?_ | refine Ext.alloc ?_ _ | refine Ext.drewN ?_ _ | refine Ext.trans ?_ (by assumption)))) ?_
    have ez0 : Ext w5 w5.drew := (Ext.refl _).drew
    generalize w5.drew = qz0 at ez0 ⊢
    have hYz0 := hX5.trans ez0
    refine tr_y (v := ?_) (a' := ?_) rfl rfl (by rfl) (fun w' hw' => ?_) ?_ ?_
    rotate_left 2
    · (refine (run_op_load rfl ?_ (ld w' hw')).trans ?_; (· rfl); (· with_reducible rfl))
    · simp only [Act.put, zzA, zz0, zzS]; rfl
    refine tr_y (v := ?_) (a' := ?_) rfl rfl (by rfl) (fun w' hw' => ?_) ?_ ?_
    rotate_left 2
    · (refine (run_op_load rfl ?_ (l0V w' hw')).trans ?_; (· rfl); (· with_reducible rfl))
    · simp only [Act.put, zzA, zz0, zzS]; rfl
    refine tr_call (args := ?_) rfl Tryz.func23 (by kernel_rfl) rfl (by rfl) rfl rfl ?_ ?_
    rotate_left 1
    · go_simp; rfl
    (with_reducible refine (hck2 _ _ (hWV.trans hYz0) (hDV _ hYz0)).mono ?_)
    rintro e qz1 ⟨rfl, ez1⟩
    have hYz1 := hYz0.trans ez1
    refine ⟨_, _, rfl, hYz1, (by simp only [Act.put, zzA, zz0, zzS]; rfl), ?_⟩
    refine tr_call (args := ?_) rfl Tryz.func24 (by kernel_rfl) rfl (by rfl) rfl rfl ?_ ?_
    rotate_left 1
    · go_simp; rfl
    (with_reducible refine (hrc _ (hWV.trans hYz1)).mono ?_)
    rintro e qz2 ⟨rfl, ez2⟩
    have hYz2 := hYz1.trans ez2
    refine ⟨_, _, rfl, hYz2, (by simp only [Act.put, zzA, zz0, zzS]; rfl), ?_⟩
    (first | (refine tr_off (a' := ?_) rfl rfl (by rfl) ?_ ?_; rotate_left 1; (· simp only [Act.put, zzA, zz0, zzS]; rfl)) | (refine tr_y (v := ?_) (a' := ?_) rfl rfl (by rfl) (fun w' hw' => ?_) ?_ ?_; rotate_left 2; (· go_simp; with_reducible rfl); (· simp only [Act.put, zzA, zz0, zzS]; rfl)))
    (first | (refine tr_off (a' := ?_) rfl rfl (by rfl) ?_ ?_; rotate_left 1; (· simp only [Act.put, zzA, zz0, zzS]; rfl)) | (refine tr_y (v := ?_) (a' := ?_) rfl rfl (by rfl) (fun w' hw' => ?_) ?_ ?_; rotate_left 2; (· go_simp; with_reducible rfl); (· simp only [Act.put, zzA, zz0, zzS]; rfl)))
    (first | (refine tr_off (a' := ?_) rfl rfl (by rfl) ?_ ?_; rotate_left 1; (· simp only [Act.put, zzA, zz0, zzS]; rfl)) | (refine tr_y (v := ?_) (a' := ?_) rfl rfl (by rfl) (fun w' hw' => ?_) ?_ ?_; rotate_left 2; (· go_simp; with_reducible rfl); (· simp only [Act.put, zzA, zz0, zzS]; rfl)))
    (first | (refine tr_off (a' := ?_) rfl rfl (by rfl) ?_ ?_; rotate_left 1; (· simp only [Act.put, zzA, zz0, zzS]; rfl)) | (refine tr_y (v := ?_) (a' := ?_) rfl rfl (by rfl) (fun w' hw' => ?_) ?_ ?_; rotate_left 2; (· go_simp; with_reducible rfl); (· simp only [Act.put, zzA, zz0, zzS]; rfl)))
    (first | (refine tr_off (a' := ?_) rfl rfl (by rfl) ?_ ?_; rotate_left 1; (· simp only [Act.put, zzA, zz0, zzS]; rfl)) | (refine tr_y (v := ?_) (a' := ?_) rfl rfl (by rfl) (fun w' hw' => ?_) ?_ ?_; rotate_left 2; (· go_simp; with_reducible rfl); (· simp only [Act.put, zzA, zz0, zzS]; rfl)))
    (first | (refine tr_off (a' := ?_) rfl rfl (by rfl) ?_ ?_; rotate_left 1; (· simp only [Act.put, zzA, zz0, zzS]; rfl)) | (refine tr_y (v := ?_) (a' := ?_) rfl rfl (by rfl) (fun w' hw' => ?_) ?_ ?_; rotate_left 2; (· go_simp; with_reducible rfl); (· simp only [Act.put, zzA, zz0, zzS]; rfl)))
    (first | (refine tr_off (a' := ?_) rfl rfl (by rfl) ?_ ?_; rotate_left 1; (· simp only [Act.put, zzA, zz0, zzS]; rfl)) | (refine tr_y (v := ?_) (a' := ?_) rfl rfl (by rfl) (fun w' hw' => ?_) ?_ ?_; rotate_left 2; (· go_simp; with_reducible rfl); (· simp only [Act.put, zzA, zz0, zzS]; rfl)))
    (first | (refine tr_off (a' := ?_) rfl rfl (by rfl) ?_ ?_; rotate_left 1; (· simp only [Act.put, zzA, zz0, zzS]; rfl)) | (refine tr_y (v := ?_) (a' := ?_) rfl rfl (by rfl) (fun w' hw' => ?_) ?_ ?_; rotate_left 2; (· go_simp; with_reducible rfl); (· simp only [Act.put, zzA, zz0, zzS]; rfl)))
    (first | (refine tr_off (a' := ?_) rfl rfl (by rfl) ?_ ?_; rotate_left 1; (· simp only [Act.put, zzA, zz0, zzS]; rfl)) | (refine tr_y (v := ?_) (a' := ?_) rfl rfl (by rfl) (fun w' hw' => ?_) ?_ ?_; rotate_left 2; (· go_simp; with_reducible rfl); (· simp only [Act.put, zzA, zz0, zzS]; rfl)))
    (first | (refine tr_off (a' := ?_) rfl rfl (by rfl) ?_ ?_; rotate_left 1; (· simp only [Act.put, zzA, zz0, zzS]; rfl)) | (refine tr_y (v := ?_) (a' := ?_) rfl rfl (by rfl) (fun w' hw' => ?_) ?_ ?_; rotate_left 2; (· go_simp; with_reducible rfl); (· simp only [Act.put, zzA, zz0, zzS]; rfl)))
    (first | (refine tr_off (a' := ?_) rfl rfl (by rfl) ?_ ?_; rotate_left 1; (· simp only [Act.put, zzA, zz0, zzS]; rfl)) | (refine tr_y (v := ?_) (a' := ?_) rfl rfl (by rfl) (fun w' hw' => ?_) ?_ ?_; rotate_left 2; (· go_simp; with_reducible rfl); (· simp only [Act.put, zzA, zz0, zzS]; rfl)))
    (first | (refine tr_off (a' := ?_) rfl rfl (by rfl) ?_ ?_; rotate_left 1; (· simp only [Act.put, zzA, zz0, zzS]; rfl)) | (refine tr_y (v := ?_) (a' := ?_) rfl rfl (by rfl) (fun w' hw' => ?_) ?_ ?_; rotate_left 2; (· go_simp; with_reducible rfl); (· simp only [Act.put, zzA, zz0, zzS]; rfl)))
    (first | (refine tr_off (a' := ?_) rfl rfl (by rfl) ?_ ?_; rotate_left 1; (· simp only [Act.put, zzA, zz0, zzS]; rfl)) | (refine tr_y (v := ?_) (a' := ?_) rfl rfl (by rfl) (fun w' hw' => ?_) ?_ ?_; rotate_left 2; (· go_simp; with_reducible rfl); (· simp only [Act.put, zzA, zz0, zzS]; rfl)))
    (first | (refine tr_off (a' := ?_) rfl rfl (by rfl) ?_ ?_; rotate_left 1; (· simp only [Act.put, zzA, zz0, zzS]; rfl)) | (refine tr_y (v := ?_) (a' := ?_) rfl rfl (by rfl) (fun w' hw' => ?_) ?_ ?_; rotate_left 2; (· go_simp; with_reducible rfl); (· simp only [Act.put, zzA, zz0, zzS]; rfl)))
    refine tr_call (args := ?_) rfl Tryz.func16 (by kernel_rfl) rfl (by rfl) rfl rfl ?_ ?_
    rotate_left 1
    · go_simp; rfl
    (with_reducible refine (hsb _ _ _ _ ((q3.mono only_cle).ext (ez0.trans (ez1.trans ez2))) hc3 _ _ ((hS5.mono only_cle).ext (ez0.trans (ez1.trans ez2))) hc5).mono ?_)
    rintro e qz3 ⟨rfl, ez3⟩
    have hYz3 := hYz2.trans ez3
    refine ⟨_, _, rfl, hYz3, (by simp only [Act.put, zzA, zz0, zzS]; rfl), ?_⟩
    (first | (refine tr_off (a' := ?_) rfl rfl (by rfl) ?_ ?_; rotate_left 1; (· simp only [Act.put, zzA, zz0, zzS]; rfl)) | (refine tr_y (v := ?_) (a' := ?_) rfl rfl (by rfl) (fun w' hw' => ?_) ?_ ?_; rotate_left 2; (· go_simp; with_reducible rfl); (· simp only [Act.put, zzA, zz0, zzS]; rfl)))
    (first | (refine tr_off (a' := ?_) rfl rfl (by rfl) ?_ ?_; rotate_left 1; (· simp only [Act.put, zzA, zz0, zzS]; rfl)) | (refine tr_y (v := ?_) (a' := ?_) rfl rfl (by rfl) (fun w' hw' => ?_) ?_ ?_; rotate_left 2; (· go_simp; with_reducible rfl); (· simp only [Act.put, zzA, zz0, zzS]; rfl)))
    refine tr_end ?_
    refine NoPanic.normal ?_
    have hEz : Ext w5 qz3 := ez0.trans (ez1.trans (ez2.trans ez3))
    have p3 := only_sl q3 hEz hl45
    have p4 := only_sl q4 hEz hl5
    have p5 := only_sl hS5 hEz (Nat.le_refl _)
    have l9 := hEz.le
    clear q3 q4 hS5 ez0 ez1 ez2 ez3 hYz0 hYz1 hYz2 hX5
    go_upto_region 10 with (go_at_call 17; (with_reducible refine (hsp _ _ _ _ _ _ p3 hc3).mono ?_); rintro e w9 ⟨rfl, hX9, -⟩)
    have hV9 : Ext V w9 := Exc.ext hYz3 hX9 (Nat.le_refl _)
    have hW9 : Ext W w9 := hWV.trans hV9
    have t4 := (only_slx p4 hX9 (Nat.le_trans hl5 l9) (.inr (Nat.le_refl _))).mono only_cle
    have t5 := (only_slx p5 hX9 l9 (.inr hl34)).mono only_cle
    clear p3 p4 p5 hX9
    go_wp2_with (first | (go_at_call 16; (with_reducible refine (hsb _ _ _ _ t4 hc4 _ _ t5 hc5).mono ?_); rintro e w10 ⟨rfl, hE10⟩; have hV10 := hV9.trans hE10; have hW10 := hW9.trans hE10) | (refine wpList_load_w rfl rfl ?_ (ld _ hV10) ?_; (· rfl)) | (refine wpList_load_w rfl rfl ?_ (l0 _ hW10) ?_; (· rfl)) | (go_at_call 25; (with_reducible refine (hsc _ _ hW10 (hDV _ hV10)).mono ?_); rintro e w11 ⟨rfl, hE11⟩; have hW11 := hW10.trans hE11) | (go_at_call 10; (with_reducible refine (hwo _ hW11).mono ?_); rintro e w12 ⟨rfl, hE12⟩))
    go_ret
    exact ⟨rfl, hE.trans (hW11.trans hE12)⟩
  · go_wp2_with (go_at_call 10; (with_reducible refine (hwo _ hE1).mono ?_); rintro e w2 ⟨rfl, hE2⟩)
    go_ret
    exact ⟨rfl, (hE.trans hE1).trans hE2⟩
end Go.Proofs.YtgfhbachgniipaaGreatDoor

namespace Go.Proofs.YtgfhbachgniipaaGreatDoor
open Go.RowKit
theorem ansCome_of {x : Ans} (h : rdAns.ok reachBytes x) (hm : x.tok.mac.length = 32 ∧ ∀ e ∈ x.ents, e.sum.length = 32) : AnsCome x := by
  obtain ⟨h0, h1, ⟨h2, h3⟩, ⟨-, h4, ⟨h5, h6⟩, -⟩, ⟨h7, h8⟩⟩ := h
  refine ⟨h5, h2, fun y hy => (h3 y hy).2.2.2.2.2.1, h7, ⟨(wf_int _).1 h0, (wf_int _).1 h1, (wf_int _).1 h4, fun g hg => ⟨(wf_int _).1 (h6 g hg).1, (wf_int _).1 (h6 g hg).2.2.2⟩, hm.1, fun y hy => ?_, fun y hy => ?_⟩⟩
  · obtain ⟨-, -, j1, j2, j3, -⟩ := h3 y hy
    exact ⟨(wf_int _).1 j1, (wf_int _).1 j2, (wf_int _).1 j3⟩
  · obtain ⟨j1, j2, j3, j4, j5, -⟩ := h8 y hy
    exact ⟨⟨(wf_int _).1 j1, (wf_int _).1 j2, (wf_int _).1 j3, (wf_int _).1 j4, (wf_int _).1 j5⟩, hm.2 y hy⟩
end Go.Proofs.YtgfhbachgniipaaGreatDoor
