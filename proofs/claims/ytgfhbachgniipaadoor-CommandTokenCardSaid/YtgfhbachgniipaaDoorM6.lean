/- Digests read: by the program's reader, by the document's. (and what follows) -/
import Derived.Test.YtgfhbachgniipaaDoorMz
import Derived.Test.YtgfhbachgniipaaDoorM5
set_option linter.unusedVariables false
set_option linter.unusedSimpArgs false
namespace Go.Proofs.YtgfhbachgniipaaDoor
open Go.RowKit
theorem run_op_copy {P : Program} {o : Oper} {ev : Operand → Value} {d s : Operand} {dT sT : TypeId} {w w' : World} {vd vs v : Value} (ho : o.op = .call { callee := .builtin .copy, args := #[d, s], argTypes := #[dT, sT] }) (hd : ev d = vd) (hs : ev s = vs) (h : (Builtin.copy_ #[dT, sT] o.type #[vd, vs]).run P w = .ok v w') :
    (execOp ev o).run P w = .ok (.value v) w' := by
  unfold execOp
  simp [ho, resolve, invoke, builtin, hd, hs, h, Result.andThen]
def SumP (lo g : Nat) (w : World) (s : St) (R : World → Nat → Nat → St → Prop) (e : Ending) (w' : World) : Prop := ∃ x s', sumS s = (x, s') ∧ x.length = 32 ∧ e = .returned (.agg (macA x)) ∧ R w' lo g s' ∧ Exc g (g + 1) w w'
theorem macA_zero : macA zMac = #[.int .u8 0, .int .u8 0, .int .u8 0, .int .u8 0, .int .u8 0, .int .u8 0, .int .u8 0, .int .u8 0, .int .u8 0, .int .u8 0, .int .u8 0, .int .u8 0, .int .u8 0, .int .u8 0, .int .u8 0, .int .u8 0, .int .u8 0, .int .u8 0, .int .u8 0, .int .u8 0, .int .u8 0, .int .u8 0, .int .u8 0, .int .u8 0, .int .u8 0, .int .u8 0, .int .u8 0, .int .u8 0, .int .u8 0, .int .u8 0, .int .u8 0, .int .u8 0] := rfl
theorem macA_cells (p : List UInt8) (h : p.length = 32) : (macA p).toList = p.flatMap encB := by
  apply List.ext_getElem?
  intro i
  by_cases hi : i < 32
  · rw [Array.getElem?_toList, macA_at p i hi]
    have := flat_get (f := encB) (sz := 1) (fun _ => rfl) p i 0 (by omega) (by decide)
    rw [Nat.mul_one, Nat.add_zero] at this
    rw [this]
    unfold mb
    rw [List.getD_eq_getElem?_getD, List.getElem?_eq_getElem (by omega)]
    rfl
  · rw [List.getElem?_eq_none (by rw [Array.length_toList, macA_size]; omega), List.getElem?_eq_none]
    have : ∀ l : List UInt8, (l.flatMap encB).length = l.length := fun l => by
      induction l with
      | nil => rfl
      | cons x l ih => rw [List.flatMap_cons, List.length_append, ih, List.length_cons]; simp [encB]; omega
    rw [this]; omega
theorem Exc.above {lo hi l h : Nat} {a b c : World} (k : Exc lo hi a b) (k2 : Exc l h b c) (hl : a.heap.size ≤ l) : Exc lo hi a c :=
  ⟨k2.os.trans k.os, k2.tape.trans k.tape, k2.output.trans k.output, Nat.le_trans k.size k2.size, fun i hi hd => (k2.block i (Nat.lt_of_lt_of_le hi k.size) (.inl (by omega))).trans (k.block i hi hd)⟩
set_option maxHeartbeats 9000000 in
set_option maxRecDepth 100000 in
theorem sum_S {w : World} {lo g : Nat} {s : St} (hR : RdrS w lo g s) : Calls Tryd.prog 68 #[.pointer (some ⟨g, 0, none⟩)] w (SumP lo g w s RdrS) := by
  obtain ⟨W, hW, hE, -⟩ := box1 w #[.int .u8 0, .int .u8 0, .int .u8 0, .int .u8 0, .int .u8 0, .int .u8 0, .int .u8 0, .int .u8 0, .int .u8 0, .int .u8 0, .int .u8 0, .int .u8 0, .int .u8 0, .int .u8 0, .int .u8 0, .int .u8 0, .int .u8 0, .int .u8 0, .int .u8 0, .int .u8 0, .int .u8 0, .int .u8 0, .int .u8 0, .int .u8 0, .int .u8 0, .int .u8 0, .int .u8 0, .int .u8 0, .int .u8 0, .int .u8 0, .int .u8 0, .int .u8 0] 25
  have B : Blk W w.heap.size 25 #[.int .u8 0, .int .u8 0, .int .u8 0, .int .u8 0, .int .u8 0, .int .u8 0, .int .u8 0, .int .u8 0, .int .u8 0, .int .u8 0, .int .u8 0, .int .u8 0, .int .u8 0, .int .u8 0, .int .u8 0, .int .u8 0, .int .u8 0, .int .u8 0, .int .u8 0, .int .u8 0, .int .u8 0, .int .u8 0, .int .u8 0, .int .u8 0, .int .u8 0, .int .u8 0, .int .u8 0, .int .u8 0, .int .u8 0, .int .u8 0, .int .u8 0, .int .u8 0] := by rw [hW]; exact Blk.new _ _ _
  have hg := hR.lt
  have hRW : RdrAt W lo g s.1 s.2 := RdrAt.ext hR hE
  obtain ⟨P, hP⟩ : ∃ P, SumP lo g w s RdrS = P := ⟨_, rfl⟩
  rw [hP]
  have HP := Lib.hid hP
  clear hP hR
  go_enter Tryd.func68, Tryd.ntmps68
  go_upto_region 1 with fail
  rw [← hW]
  have hWs : W.heap.size = w.heap.size + 1 := by rw [hW]; simp
  clear hW
  refine wp_region_noPanic ?_
  refine tr_start (.y 0 (.y 1 (.e 2 (.e 3 .nil)))) (fun _ => True) (by kernel_rfl) (by as_aux_lemma => kernel_rfl) (fun _ _ _ _ _ h => h) (trivial) ?_
  iterate 2 (first | (refine tr_off (a' := ?_) rfl rfl (by rfl) ?_ ?_; rotate_left 1; (· simp only [Act.put, zzA, zz0, zzS]; rfl)) | (refine tr_y (v := ?_) (a' := ?_) rfl rfl (by rfl) (fun w' hw' => ?_) ?_ ?_; rotate_left 2; (· go_simp; with_reducible rfl); (· simp only [Act.put, zzA, zz0, zzS]; rfl)))
  have Bd : Blk W.drew w.heap.size 25 #[.int .u8 0, .int .u8 0, .int .u8 0, .int .u8 0, .int .u8 0, .int .u8 0, .int .u8 0, .int .u8 0, .int .u8 0, .int .u8 0, .int .u8 0, .int .u8 0, .int .u8 0, .int .u8 0, .int .u8 0, .int .u8 0, .int .u8 0, .int .u8 0, .int .u8 0, .int .u8 0, .int .u8 0, .int .u8 0, .int .u8 0, .int .u8 0, .int .u8 0, .int .u8 0, .int .u8 0, .int .u8 0, .int .u8 0, .int .u8 0, .int .u8 0, .int .u8 0] := B
  have hRd : RdrAt W.drew lo g s.1 s.2 := RdrAt.ext hRW (Ext.drew (Ext.refl _))
  have hEd : Ext w W.drew := hE.drew
  have hds : W.drew.heap.size = w.heap.size + 1 := hWs
  generalize W.drew = wd at *
  have htk := take_any wd lo g s.1 s.2 hRd 32 (by decide)
  rw [show ((32 : Nat) : Int) = 32 from rfl] at htk
  refine tr_call (args := ?_) rfl Tryd.func66 (by kernel_rfl) rfl (by rfl) rfl rfl ?_ ?_
  rotate_left 1
  · go_simp; rfl
  (with_reducible refine (htk).mono ?_)
  rintro e w1 ⟨A, c, rfl, h1c, h1S, hR1, hX1⟩
  refine ⟨_, _, rfl, trivial, (by simp only [Act.put, zzA, zz0, zzS]; rfl), ?_⟩
  have B1 : Blk w1 w.heap.size 25 #[.int .u8 0, .int .u8 0, .int .u8 0, .int .u8 0, .int .u8 0, .int .u8 0, .int .u8 0, .int .u8 0, .int .u8 0, .int .u8 0, .int .u8 0, .int .u8 0, .int .u8 0, .int .u8 0, .int .u8 0, .int .u8 0, .int .u8 0, .int .u8 0, .int .u8 0, .int .u8 0, .int .u8 0, .int .u8 0, .int .u8 0, .int .u8 0, .int .u8 0, .int .u8 0, .int .u8 0, .int .u8 0, .int .u8 0, .int .u8 0, .int .u8 0, .int .u8 0] := hX1.blk Bd (.inr hg)
  have halt := takeG_alt 32 s.1 s.2
  have hX : Exc g (g + 1) w w1 := (Ext.exc hEd).trans hX1
  obtain ⟨p, hp⟩ : ∃ p, (takeG 32 s.1 s.2).1 = p := ⟨_, rfl⟩
  obtain ⟨s', hs'⟩ : ∃ q, (takeG 32 s.1 s.2).2 = q := ⟨_, rfl⟩
  have hsum : sumS s = (sumOf p, s') := by unfold sumS; rw [hp, hs']
  rw [hp] at h1c h1S halt ⊢
  rw [hs'] at hR1
  have HS := Lib.hid hsum
  clear hp hs' hsum htk hRd hRW B Bd hX1
  have hcp : ∃ w2 v, (Builtin.copy_ #[37, 37] 3 #[.slice (some ⟨w.heap.size, 0, none⟩) 32 32, .slice A p.length c]).run Tryd.prog w1 = .ok v w2 ∧ Blk w2 w.heap.size 25 (macA (sumOf p)) ∧ Exc w.heap.size (w.heap.size + 1) w1 w2 := by
    rcases halt with rfl | hp32
    · refine ⟨w1, _, run_copy_none w1 _ _ _ 5 _ _ _ _ _ _ Tryd.underlying37 (by kernel_rfl) rfl, ?_, Exc.refl _ _ _⟩
      rw [sumOf_nil, macA_zero]
      exact B1
    · have hcl := b_cells (h1S.mono only_cle)
      cases A with
      | none => exact absurd (hcl.2.1 rfl) (by omega)
      | some ad =>
        have hlen : (p.flatMap encB).length = 32 := by rw [hcl.1, hp32]
        have hz : ∀ j, j < 32 → (w1.cell? ⟨w.heap.size, 0 + j, none⟩).isSome = true := fun j hj => by
          rw [Nat.zero_add, B1.cell j (v := mb zMac j) (by rw [← macA_zero]; exact macA_at zMac j hj)]
          rfl
        refine ⟨_, _, run_copy_cells w1 _ _ _ 5 w.heap.size 0 32 32 ad p.length c (p.flatMap encB) Tryd.underlying37 (by kernel_rfl) (by rw [hlen, hp32]; rfl) (fun j v hv => hcl.2.2 ad rfl j v hv) (fun j hj => hz j (by omega)) (fun j _ => B1.frozen _) (encB_one p), ?_, setCells_exc _ _ _⟩
        have h := setCells_blk (p.flatMap encB) w1 [] [.int .u8 0, .int .u8 0, .int .u8 0, .int .u8 0, .int .u8 0, .int .u8 0, .int .u8 0, .int .u8 0, .int .u8 0, .int .u8 0, .int .u8 0, .int .u8 0, .int .u8 0, .int .u8 0, .int .u8 0, .int .u8 0, .int .u8 0, .int .u8 0, .int .u8 0, .int .u8 0, .int .u8 0, .int .u8 0, .int .u8 0, .int .u8 0, .int .u8 0, .int .u8 0, .int .u8 0, .int .u8 0, .int .u8 0, .int .u8 0, .int .u8 0, .int .u8 0] [] (by rw [hlen]; rfl) (by simpa using B1)
        rw [sumOf_same p hp32]
        have e : macA p = ([] ++ p.flatMap encB ++ []).toArray := by
          rw [← macA_cells p hp32]
          simp
        rw [e]
        exact h
  obtain ⟨w2, v2, hrun, B2, hX2⟩ := hcp
  refine tr_value (v := v2) (w1 := w2) (a' := ?_) rfl rfl (by rfl) ?_ trivial ?_ ?_
  rotate_left 1
  · exact run_op_copy rfl rfl rfl hrun
  · simp only [Act.put, zzA, zz0, zzS]; rfl
  refine tr_end (NoPanic.normal ?_)
  have hR2 : RdrAt w2 lo g s'.1 s'.2 := RdrAt.exc hR1 hX2 (.inl hg)
  have hX2' := hX.above hX2 (Nat.le_refl _)
  have hl := load_whole B2 25 _ Tryd.underlying25 rfl (by kernel_rfl)
  obtain ⟨w3, hr3, B3, hX3⟩ := store_part B2 0 (macA (sumOf p)) [] (macA (sumOf p)).toList [] (by simp) rfl (by simp) 25 (by kernel_rfl) (by simp [macA, mb, Value.oneCell'])
  have B3 : Blk w3 w.heap.size 25 (macA (sumOf p)) := by simpa using B3
  have hR3 : RdrAt w3 lo g s'.1 s'.2 := RdrAt.exc hR2 hX3 (.inl hg)
  have hX3' := hX2'.above hX3 (Nat.le_refl _)
  have hx32 := sumOf_len p
  generalize sumOf p = x at *
  clear hrun B2 hX2 hX2' hX3 hR2 hX hR1 B1 hEd hE h1S
  go_wp2_with (first | (refine wpList_load_by rfl rfl ?_ hl ?_; (· rfl)) | (refine wpList_store_by rfl rfl ?_ ?_ hr3 ?_; (· rfl); (· rfl)))
  refine bodyPost_ret (v := .agg (macA x)) (results_cell_row (P := Tryd.prog) (fn := Tryd.f68) rfl _ w3 w.heap.size _ _ _ _ rfl B3 Tryd.underlying25 rfl (by kernel_rfl)) rfl ?_
  rw [← HP.out]
  exact ⟨_, _, HS.out, hx32, rfl, hR3, hX3'⟩
theorem mac_set (m : List UInt8) (hm : m.length = 32) (k : Nat) (hk : k < 32) (x : UInt8) : (macA m).setIfInBounds k (.int .u8 x.toNat) = macA (m.set k x) := by
  apply Array.ext_getElem?
  intro i
  rw [Array.getElem?_setIfInBounds]
  by_cases hi : i < 32
  · rw [macA_at m i hi, macA_at (m.set k x) i hi]
    unfold mb
    by_cases e : k = i
    · subst e
      rw [if_pos rfl, if_pos (by rw [macA_size]; exact hk), List.getD_eq_getElem?_getD, List.getElem?_set_self (by omega)]
      rfl
    · rw [if_neg e, List.getD_eq_getElem?_getD, List.getD_eq_getElem?_getD, List.getElem?_set_ne e]
  · have h1 : ∀ q : List UInt8, (macA q)[i]? = none := fun q => Array.getElem?_eq_none (by rw [macA_size]; omega)
    rw [h1, h1]
    split <;> rename_i h
    · rw [if_neg (by rw [macA_size]; omega)]
    · rfl
def fillM (p : List UInt8) (k : Nat) : List UInt8 := p.take k ++ List.replicate (32 - k) 0
theorem fillM_len (p : List UInt8) (k : Nat) (h : k ≤ p.length) (h2 : p.length ≤ 32) : (fillM p k).length = 32 := by
  unfold fillM
  rw [List.length_append, List.length_take, List.length_replicate]
  omega
theorem fillM_set (p : List UInt8) (k : Nat) (h : k < p.length) (h2 : p.length ≤ 32) : (fillM p k).set k p[k] = fillM p (k + 1) := by
  unfold fillM
  rw [List.take_succ_eq_append_getElem h, List.set_append, if_neg (by rw [List.length_take]; omega)]
  rw [show 32 - k = (32 - (k + 1)) + 1 by omega, List.replicate_succ, show k - (p.take k).length = 0 by rw [List.length_take]; omega, List.set_cons_zero]
  rw [List.append_assoc]
  rfl
theorem fillM_end (p : List UInt8) (h : p = [] ∨ p.length = 32) : fillM p p.length = sumOf p := by
  rcases h with rfl | h
  · rw [sumOf_nil]; rfl
  · unfold fillM
    rw [sumOf_same p h, List.take_length, h]
    simp
end Go.Proofs.YtgfhbachgniipaaDoor

namespace Go.Proofs.YtgfhbachgniipaaDoor
open Go.RowKit
open Go.Shelf
def firstI {α : Type} (p : α → Bool) : List α → Nat → Int
  | [], _ => -1
  | x :: l, k => if p x then k else firstI p l (k + 1)
theorem firstI_at {α : Type} (p : α → Bool) : ∀ (l : List α) (j k : Nat) (hk : k < l.length), (∀ x ∈ l.take k, p x = false) → p l[k] = true → firstI p l j = ((j + k : Nat) : Int)
  | x :: l, j, 0, _, _, h => by unfold firstI; rw [if_pos (show p x = true from h)]; simp
  | x :: l, j, k + 1, hk, hn, h => by
    unfold firstI
    rw [if_neg (by rw [hn x (by simp)]; simp), firstI_at p l (j + 1) k (by simpa using hk) (fun y hy => hn y (by simp [hy])) h]
    congr 1; omega
theorem firstI_no {α : Type} (p : α → Bool) : ∀ (l : List α) (j : Nat), (∀ x ∈ l, p x = false) → firstI p l j = -1
  | [], _, _ => rfl
  | x :: l, j, hn => by
    unfold firstI
    rw [if_neg (by rw [hn x (by simp)]; simp)]
    exact firstI_no p l _ fun y hy => hn y (by simp [hy])
theorem firstI_any {α : Type} (p : α → Bool) : ∀ (l : List α) (j : Nat), decide (0 ≤ firstI p l j) = l.any p
  | [], _ => by simp [firstI]
  | x :: l, j => by
    unfold firstI
    rw [List.any_cons]
    cases h : p x
    · simpa using firstI_any p l (j + 1)
    · simp
set_option maxHeartbeats 1000000 in
set_option maxRecDepth 100000 in
theorem long_any (w : World) (A : Option Addr) (n c : Nat) (hn : n ≤ 9223372036854775807) : Calls Tryd.prog 17 #[.slice A n c] w fun e w' => e = .returned (.bool (decide (256 < n))) ∧ Ext w w' := by
  obtain ⟨v, hv⟩ : ∃ v, decide (256 < n) = v := ⟨_, rfl⟩
  rw [hv]
  have hv' : decide ((256 : Int) < (n : Int)) = v := by rw [← hv]; apply decide_eq_decide.2; omega
  clear hv
  go_enter Tryd.func17, Tryd.ntmps17
  go_wp2_with fail
  go_ret
  exact ⟨ret_bool (by first | exact hv' | simp [hv']), Ext.refl _⟩
set_option maxHeartbeats 1000000 in
set_option maxRecDepth 100000 in
theorem indexL_any (w : World) (A : Option Addr) (c : Nat) (l : List (List UInt8)) (hS : rdB.Sl w A l.length l) (hc : l.length ≤ c) (hn : l.length ≤ 1000000) (hm : ∀ x ∈ l, x.length ≤ 9223372036854775807) :
    Calls Tryd.prog 48 #[.slice A l.length c, .func (.func 17) #[] #[]] w fun e w' => e = .returned (.int .i64 (firstI longB l 0)) ∧ Ext w w' := by
  obtain ⟨v, hv⟩ : ∃ v, firstI longB l 0 = v := ⟨_, rfl⟩
  rw [hv]
  obtain ⟨n, hln⟩ : ∃ n, l.length = n := ⟨_, rfl⟩
  rw [hln] at hS hc hn ⊢
  go_enter Tryd.func48, Tryd.ntmps48
  go_wp2_with fail
  go_loopw [8] (fun i wr => ∃ k : Nat, k ≤ n ∧ i = .int .i64 k ∧ (∀ x ∈ l.take k, longB x = false) ∧ Ext w wr) (fun i _ => n - (intOf i).toNat)
  case atStart => exact ⟨0, by omega, rfl, by simp, Ext.refl _⟩
  case round =>
    obtain ⟨k, hkn, rfl, hd, hwr⟩ := hrel
    by_cases hlt : k < n
    · obtain ⟨b, o, A1, c1, rfl, x0, -, -⟩ := n_get hS k hlt
      have hres : longB (l[k]'(by omega)) = true → v = (k : Int) := fun h => by rw [← hv, firstI_at longB l 0 k (by omega) hd h, Nat.zero_add]
      have htk : l.take (k + 1) = l.take k ++ [l[k]'(by omega)] := List.take_succ_eq_append_getElem (by omega)
      have hxm := hm _ (List.getElem_mem (l := l) (n := k) (by omega))
      generalize hx : l[k]'(by omega) = x at *
      have x0 := hwr.cellk x0
      have ho := long_any wr A1 x.length c1 hxm
      obtain ⟨b, hb⟩ : ∃ b, longB x = b := ⟨_, rfl⟩
      have hb' : decide (256 < x.length) = b := hb
      rw [hb'] at ho
      rw [hb] at hres
      obtain ⟨m, hm'⟩ : ∃ m, x.length = m := ⟨_, rfl⟩
      rw [hm'] at x0 ho
      clear hS hx hb' hm' hxm
      cases b
      · have hrel : ∀ y ∈ l.take (k + 1), longB y = false := by
          rw [htk]
          intro y hy
          rcases List.mem_append.1 hy with hy | hy
          · exact hd y hy
          · obtain rfl : y = x := by simpa using hy
            exact hb
        clear hres hd htk
        go_wp2_with (go_at_call 17; (with_reducible refine ho.mono ?_); rintro e w1 ⟨rfl, hE1⟩)
        go_roundw
        case rel => exact ⟨k + 1, by omega, by go_num, hrel, hwr.trans hE1⟩
        case measure => simp [intOf]; omega
      · obtain rfl := hres rfl
        clear hd htk hv
        go_wp2_with (go_at_call 17; (with_reducible refine ho.mono ?_); rintro e w1 ⟨rfl, hE1⟩)
        go_ret
        exact ⟨rfl, hwr.trans hE1⟩
    · obtain rfl : k = n := by omega
      rw [← hln, List.take_length] at hd
      have hv2 := firstI_no longB l 0 hd
      rw [hv] at hv2
      go_wp2_with fail
      go_ret
      exact ⟨ret_int hv2.symm, hwr⟩
set_option maxHeartbeats 1000000 in
set_option maxRecDepth 100000 in
theorem containsL_any (w : World) (A : Option Addr) (c : Nat) (l : List (List UInt8)) (hS : rdB.Sl w A l.length l) (hc : l.length ≤ c) (hn : l.length ≤ 1000000) (hm : ∀ x ∈ l, x.length ≤ 9223372036854775807) :
    Calls Tryd.prog 20 #[.slice A l.length c, .func (.func 17) #[] #[]] w fun e w' => e = .returned (.bool (l.any longB)) ∧ Ext w w' := by
  have hi := indexL_any w A c l hS hc hn hm
  rw [← firstI_any longB l 0]
  generalize firstI longB l 0 = v at *
  generalize l.length = n at *
  clear hS
  go_enter Tryd.func20, Tryd.ntmps20
  go_wp2_with (go_at_call 48; (with_reducible refine hi.mono ?_); rintro e w1 ⟨rfl, hE1⟩)
  go_ret
  exact ⟨rfl, hE1⟩
def longP (g : Grant) : Bool := longS g.p
set_option maxHeartbeats 1000000 in
set_option maxRecDepth 100000 in
theorem longest_any (s : ByteArray) (w : World) : Calls Tryd.prog 28 #[.string s] w fun e w' => e = .returned (.bool (longS s)) ∧ w = w' := by
  obtain ⟨v, hv⟩ : ∃ v, longS s = v := ⟨_, rfl⟩
  rw [hv]
  have hv' : decide ((24 : Int) < (s.size : Int)) = v := by rw [← hv]; unfold longS; apply decide_eq_decide.2; omega
  clear hv
  go_enter Tryd.func28, Tryd.ntmps28
  go_wp2_with fail
  go_ret
  exact ⟨ret_bool (by first | exact hv' | simp [hv']), rfl⟩
set_option maxHeartbeats 1000000 in
set_option maxRecDepth 100000 in
theorem longp_any (w : World) (g : Grant) : Calls Tryd.prog 50 #[.agg (grA g)] w fun e w' => e = .returned (.bool (longP g)) ∧ Ext w w' := by
  have hl := longest_any g.p
  unfold longP
  generalize longS g.p = v at *
  obtain ⟨W, hW, hE, bx⟩ := box1 w (grA g) 30
  have x1 : W.cell? ⟨w.heap.size, 1, none⟩ = some (.string g.p) := bx 1 _ rfl
  generalize grA g = G at *
  clear bx
  go_enter Tryd.func50, Tryd.ntmps50
  go_upto_region 1 with fail
  rw [← hW]
  clear hW
  go_wp2_with (go_at_call 28; (with_reducible refine (hl _).mono ?_); rintro e w1 ⟨rfl, rfl⟩)
  go_ret
  exact ⟨rfl, hE⟩
set_option maxHeartbeats 1000000 in
set_option maxRecDepth 100000 in
theorem indexG_any (w : World) (A : Option Addr) (c : Nat) (l : List Grant) (hS : rdGr.Sl w A l.length l) (hc : l.length ≤ c) (hn : l.length ≤ 1000000) (hm : ∀ x ∈ l, x.p.size ≤ 9223372036854775807) :
    Calls Tryd.prog 73 #[.slice A l.length c, .func (.func 50) #[] #[]] w fun e w' => e = .returned (.int .i64 (firstI longP l 0)) ∧ Ext w w' := by
  obtain ⟨v, hv⟩ : ∃ v, firstI longP l 0 = v := ⟨_, rfl⟩
  rw [hv]
  obtain ⟨n, hln⟩ : ∃ n, l.length = n := ⟨_, rfl⟩
  rw [hln] at hS hc hn ⊢
  go_enter Tryd.func73, Tryd.ntmps73
  go_wp2_with fail
  go_loopw [8] (fun i wr => ∃ k : Nat, k ≤ n ∧ i = .int .i64 k ∧ (∀ x ∈ l.take k, longP x = false) ∧ Ext w wr) (fun i _ => n - (intOf i).toNat)
  case atStart => exact ⟨0, by omega, rfl, by simp, Ext.refl _⟩
  case round =>
    obtain ⟨k, hkn, rfl, hd, hwr⟩ := hrel
    by_cases hlt : k < n
    · obtain ⟨b, o, cs, rfl, hK, hcell⟩ := hS.get k hlt
      obtain rfl := gr_cells hK
      have hres : longP (l[k]'(by omega)) = true → v = (k : Int) := fun h => by rw [← hv, firstI_at longP l 0 k (by omega) hd h, Nat.zero_add]
      have htk : l.take (k + 1) = l.take k ++ [l[k]'(by omega)] := List.take_succ_eq_append_getElem (by omega)
      have hxm := hm _ (List.getElem_mem (l := l) (n := k) (by omega))
      generalize hx : l[k]'(by omega) = x at *
      have x0 : wr.cell? ⟨b, o + k * 4, none⟩ = some (.int .i64 x.r) := hwr.cellk (hcell 0 _ rfl)
      have x1 : wr.cell? ⟨b, o + k * 4 + 1, none⟩ = some (.string x.p) := hwr.cellk (hcell 1 _ rfl)
      have x2 : wr.cell? ⟨b, o + k * 4 + 2, none⟩ = some (.bool x.x) := hwr.cellk (hcell 2 _ rfl)
      have x3 : wr.cell? ⟨b, o + k * 4 + 3, none⟩ = some (.int .i64 x.u) := hwr.cellk (hcell 3 _ rfl)
      have ho := longp_any wr x
      unfold grA at ho
      obtain ⟨b, hb⟩ : ∃ b, longP x = b := ⟨_, rfl⟩
      rw [hb] at ho hres
      clear hS hx hK hcell hxm
      cases b
      · have hrel : ∀ y ∈ l.take (k + 1), longP y = false := by
          rw [htk]
          intro y hy
          rcases List.mem_append.1 hy with hy | hy
          · exact hd y hy
          · obtain rfl : y = x := by simpa using hy
            exact hb
        clear hres hd htk
        go_wp2_with (go_at_call 50; (with_reducible refine ho.mono ?_); rintro e w1 ⟨rfl, hE1⟩)
        go_roundw
        case rel => exact ⟨k + 1, by omega, by go_num, hrel, hwr.trans hE1⟩
        case measure => simp [intOf]; omega
      · obtain rfl := hres rfl
        clear hd htk hv
        go_wp2_with (go_at_call 50; (with_reducible refine ho.mono ?_); rintro e w1 ⟨rfl, hE1⟩)
        go_ret
        exact ⟨rfl, hwr.trans hE1⟩
    · obtain rfl : k = n := by omega
      rw [← hln, List.take_length] at hd
      have hv2 := firstI_no longP l 0 hd
      rw [hv] at hv2
      go_wp2_with fail
      go_ret
      exact ⟨ret_int hv2.symm, hwr⟩
set_option maxHeartbeats 1000000 in
set_option maxRecDepth 100000 in
theorem containsG_any (w : World) (A : Option Addr) (c : Nat) (l : List Grant) (hS : rdGr.Sl w A l.length l) (hc : l.length ≤ c) (hn : l.length ≤ 1000000) (hm : ∀ x ∈ l, x.p.size ≤ 9223372036854775807) :
    Calls Tryd.prog 49 #[.slice A l.length c, .func (.func 50) #[] #[]] w fun e w' => e = .returned (.bool (l.any longP)) ∧ Ext w w' := by
  have hi := indexG_any w A c l hS hc hn hm
  rw [← firstI_any longP l 0]
  generalize firstI longP l 0 = v at *
  generalize l.length = n at *
  clear hS
  go_enter Tryd.func49, Tryd.ntmps49
  go_wp2_with (go_at_call 73; (with_reducible refine hi.mono ?_); rintro e w1 ⟨rfl, hE1⟩)
  go_ret
  exact ⟨rfl, hE1⟩
set_option maxHeartbeats 9000000 in
set_option maxRecDepth 100000 in
theorem longT_any (w : World) (t : Tok) (a : Value) (h : GsV w t.gs a) (hn : t.gs.length ≤ 1000000) (hp : ∀ g ∈ t.gs, g.p.size ≤ 9223372036854775807) :
    Calls Tryd.prog 21 #[.agg (tokA t a)] w fun e w' => e = .returned (.bool (longT t)) ∧ Ext w w' := by
  obtain ⟨A, c, rfl, hc, hS⟩ := h
  have hcg := fun (w' : World) (e : Ext w w') => containsG_any w' A c t.gs (hS.ext e) hc hn hp
  have hl := longest_any t.ten
  obtain ⟨W, hW, hE, bx⟩ := box1 w (tokA t (.slice A t.gs.length c)) 27
  have x0 : W.cell? ⟨w.heap.size, 0, none⟩ = some (.string t.ten) := bx 0 _ rfl
  have x2 : W.cell? ⟨w.heap.size, 2, none⟩ = some (.slice A t.gs.length c) := bx 2 _ rfl
  unfold longT
  have e1 : (t.gs.any fun g => longS g.p) = t.gs.any longP := rfl
  rw [e1]
  generalize tokA t (.slice A t.gs.length c) = T at *
  generalize t.gs.any longP = v2 at *
  generalize longS t.ten = v1 at *
  generalize t.gs.length = n at *
  clear bx hS e1 hp
  cases v1
  · go_enter Tryd.func21, Tryd.ntmps21
    go_upto_region 1 with fail
    rw [← hW]
    clear hW
    go_wp2_with (first | (go_at_call 28; (with_reducible refine (hl _).mono ?_); rintro e w1 ⟨rfl, rfl⟩) | (go_at_call 49; (with_reducible refine (hcg _ hE).mono ?_); rintro e w2 ⟨rfl, hE2⟩))
    go_ret
    exact ⟨ret_bool (by simp), hE.trans hE2⟩
  · go_enter Tryd.func21, Tryd.ntmps21
    go_upto_region 1 with fail
    rw [← hW]
    clear hW
    go_wp2_with (go_at_call 28; (with_reducible refine (hl _).mono ?_); rintro e w1 ⟨rfl, rfl⟩)
    go_ret
    exact ⟨ret_bool (by simp), hE⟩
end Go.Proofs.YtgfhbachgniipaaDoor

namespace Go.Proofs.YtgfhbachgniipaaDoor
open Go.RowKit
open Go.Shelf
def ofT (k : Nat) : Nat := [0, 15, 49, 48, 2, 64, 128, 48, 16].getD k 0
def hasM (m f : Int) : Bool := bits .and .u64 m f != 0
theorem hasM_F : ∀ k : Fin 9, ∀ i : Fin 8, hasM (ofT k.1) (2 ^ i.1) = hasF k.1 i.1 := by decide +kernel
def OfAt (w : World) : Prop := ∀ k, k < 9 → w.cell? ⟨0, k, none⟩ = some (.int .u64 (ofT k))
theorem OfAt.ext {w w' : World} (h : OfAt w) (e : Ext w w') : OfAt w' := fun k hk => e.cellk (h k hk)
set_option maxHeartbeats 1000000 in
set_option maxRecDepth 100000 in
theorem has_any (w : World) (g : Nat) (m f : Int) (x : w.cell? ⟨g, 0, none⟩ = some (.int .u64 m)) : Calls Tryd.prog 16 #[.int .u64 f, .pointer (some ⟨g, 0, none⟩)] w fun e w' => e = .returned (.bool (hasM m f)) ∧ w = w' := by
  unfold hasM
  go_enter Tryd.func16, Tryd.ntmps16
  go_wp2_with fail
  go_ret
  exact ⟨rfl, rfl⟩
set_option maxHeartbeats 1000000 in
set_option maxRecDepth 100000 in
theorem unnamed_any (must : Bool) (s : ByteArray) (w : World) (hs : s.size ≤ 9223372036854775807) : Calls Tryd.prog 18 #[.bool must, .string s] w fun e w' => e = .returned (.bool (!namedG s must)) ∧ Ext w w' := by
  have hN := fun (w' : World) => name_any s w' hs
  unfold namedG
  obtain ⟨v, hv⟩ : ∃ v, nm s.data.toList = v := ⟨_, rfl⟩
  rw [hv] at hN ⊢
  obtain ⟨e0, he⟩ : ∃ b, s.toList.isEmpty = b := ⟨_, rfl⟩
  have he2 : (s.toList == ([] : List UInt8)) = e0 := by rw [← he]; cases s.toList <;> rfl
  rw [he]
  have he3 : (s.toList != ([] : List UInt8)) = !e0 := by rw [bne, he2]
  cases must <;> cases e0
  all_goals
    go_enter Tryd.func18, Tryd.ntmps18
    go_wp2_with (go_at_call 47; (with_reducible refine (hN _).mono ?_); rintro e w1 ⟨rfl, hE1⟩)
    go_ret
    first | exact ⟨ret_bool (by simp), hE1⟩ | exact ⟨ret_bool (by simp), Ext.refl _⟩
set_option maxHeartbeats 1000000 in
set_option maxRecDepth 100000 in
theorem odd_any (must : Bool) (n a b : Int) (w : World) : Calls Tryd.prog 19 #[.bool must, .int .i64 n, .int .i64 a, .int .i64 b] w fun e w' => e = .returned (.bool (oddG must n a b)) ∧ w = w' := by
  unfold oddG
  cases must
  · go_enter Tryd.func19, Tryd.ntmps19
    go_wp2_with fail
    go_ret
    exact ⟨ret_bool (by simp), rfl⟩
  · by_cases h1 : n < a
    · go_enter Tryd.func19, Tryd.ntmps19
      go_wp2_with fail
      go_ret
      exact ⟨ret_bool (by simp [h1] <;> omega), rfl⟩
    · go_enter Tryd.func19, Tryd.ntmps19
      go_wp2_with fail
      go_ret
      exact ⟨ret_bool (by simp [h1] <;> omega), rfl⟩
def maskN : List Bool → Nat → Nat
  | [], _ => 0
  | b :: l, i => (if b then 2 ^ i else 0) + maskN l (i + 1)
theorem mask_eight : ∀ b0 b1 b2 b3 b4 b5 b6 b7 : Bool, ∀ k : Fin 9, (bits .andNot .u64 (maskN [b0, b1, b2, b3, b4, b5, b6, b7] 0) (ofT k.1) != 0) = ((List.range 8).any fun i => ([b0, b1, b2, b3, b4, b5, b6, b7].getD i false) && !hasF k.1 i) := by decide +kernel
theorem neq_gr (w : World) (g : Grant) : (binOp .neq 30 (.agg (grA g)) (.agg #[.int .i64 0, .string ⟨#[]⟩, .bool false, .int .i64 0])).run Tryd.prog w = .ok (.bool (!zeroG g)) w := by
  unfold grA zeroG
  go_simp
  (repeat' split) <;> simp_all
theorem maskN_snoc (b : Bool) : ∀ (l : List Bool) (i : Nat), maskN (l ++ [b]) i = maskN l i + (if b then 2 ^ (i + l.length) else 0)
  | [], i => by simp [maskN]
  | x :: l, i => by
    rw [List.cons_append, maskN, maskN, maskN_snoc b l (i + 1), List.length_cons, show i + 1 + l.length = i + (l.length + 1) by omega]
    omega
theorem mask_step : ∀ b0 b1 b2 b3 b4 b5 b6 b7 : Bool, ∀ k : Fin 8, [b0, b1, b2, b3, b4, b5, b6, b7].getD k.1 false = true → bits .or .u64 (maskN ([b0, b1, b2, b3, b4, b5, b6, b7].take k.1) 0 : Nat) ((2 ^ k.1 : Nat) : Int) = (maskN ([b0, b1, b2, b3, b4, b5, b6, b7].take (k.1 + 1)) 0 : Nat) := by decide +kernel
theorem mask_same (l : List Bool) (k : Nat) (h : l[k]? = some false) : maskN (l.take (k + 1)) 0 = maskN (l.take k) 0 := by
  obtain ⟨hk, h2⟩ := List.getElem?_eq_some_iff.1 h
  rw [List.take_succ_eq_append_getElem hk, maskN_snoc, h2]
  simp
set_option maxHeartbeats 9000000 in
set_option maxRecDepth 100000 in
theorem given_any (w : World) (c : Cmd) (a b : Value) (k : BsV w c.bodies b) :
    Calls Tryd.prog 23 #[.agg (cmdA c a b)] w fun e w' => e = .returned (.int .u64 (maskN (giveG c) 0)) ∧ Ext w w' := by
  obtain ⟨A, n, rfl, hc, hS⟩ := k
  obtain ⟨W, hW, hE, bx⟩ := box1 w (cmdA c a (.slice A c.bodies.length n)) 32
  have B1 : Blk W w.heap.size 32 (cmdA c a (.slice A c.bodies.length n)) := by rw [hW]; exact Blk.new _ _ _
  have x36 : W.cell? ⟨w.heap.size, 36, none⟩ = some (.string c.st) := bx 36 _ rfl
  have xr36 := fun (w' : World) (h : Ext W w') => h.cellk x36
  clear x36
  have x37 : W.cell? ⟨w.heap.size, 37, none⟩ = some (.string c.su) := bx 37 _ rfl
  have xr37 := fun (w' : World) (h : Ext W w') => h.cellk x37
  clear x37
  have x38 : W.cell? ⟨w.heap.size, 38, none⟩ = some (.int .i64 c.ex) := bx 38 _ rfl
  have xr38 := fun (w' : World) (h : Ext W w') => h.cellk x38
  clear x38
  have x39 : W.cell? ⟨w.heap.size, 39, none⟩ = some (.slice A c.bodies.length n) := bx 39 _ rfl
  have xr39 := fun (w' : World) (h : Ext W w') => h.cellk x39
  clear x39
  have x40 : W.cell? ⟨w.heap.size, 40, none⟩ = some (.int .i64 c.fr) := bx 40 _ rfl
  have xr40 := fun (w' : World) (h : Ext W w') => h.cellk x40
  clear x40
  have x41 : W.cell? ⟨w.heap.size, 41, none⟩ = some (.int .i64 c.ct) := bx 41 _ rfl
  have xr41 := fun (w' : World) (h : Ext W w') => h.cellk x41
  clear x41
  have x46 : W.cell? ⟨w.heap.size, 46, none⟩ = some (.int .i64 c.id) := bx 46 _ rfl
  have xr46 := fun (w' : World) (h : Ext W w') => h.cellk x46
  clear x46
  have lg := fun (w' : World) (e : Ext W w') => load_part (B1.ext e) 42 (grA c.gr) ([.int .i64 c.kind] ++ (tokA c.tok a).toList ++ [.string c.st, .string c.su, .int .i64 c.ex, .slice A c.bodies.length n, .int .i64 c.fr, .int .i64 c.ct]) [.int .i64 c.id] rfl rfl 30 _ Tryd.underlying30 rfl (by kernel_rfl)
  have en := fun (w' : World) => neq_gr w' c.gr
  have hY : Ext W W := Ext.refl W
  have hne : ∀ x : Int, decide (x ≠ 0) = (x != 0) := fun x => by by_cases h : x = 0 <;> simp [h]
  have hgv : ∃ b0 b1 b2 b3 b4 b5 b6 b7 : Bool, giveG c = [b0, b1, b2, b3, b4, b5, b6, b7] ∧ (!c.st.toList.isEmpty) = b0 ∧ (!c.su.toList.isEmpty) = b1 ∧ (c.ex != 0) = b2 ∧ decide (0 < c.bodies.length) = b3 ∧ (c.fr != 0) = b4 ∧ (c.ct != 0) = b5 ∧ (!zeroG c.gr) = b6 ∧ (c.id != 0) = b7 := by
    refine ⟨_, _, _, _, _, _, _, _, ?_, rfl, rfl, rfl, rfl, rfl, rfl, rfl, rfl⟩
    unfold giveG
    rw [hne, hne, hne, hne]
  obtain ⟨b0, b1, b2, b3, b4, b5, b6, b7, hg, h0, h1, h2, h3, h4, h5, h6, h7⟩ := hgv
  rw [hg]
  rw [h6] at en
  generalize grA c.gr = G at *
  generalize cmdA c a (.slice A c.bodies.length n) = C at *
  generalize c.bodies.length = m at *
  clear bx hg B1 hS hc h6
  go_enter Tryd.func23, Tryd.ntmps23
  go_upto_region 1 with fail
  rw [← hW]
  clear hW
  refine wp_region_noPanic ?_
  refine tr_start (.y 0 (.y 1 (.y 2 (.y 3 (.y 4 (.y 5 (.y 6 (.y 7 (.y 8 (.y 9 (.y 10 (.y 11 (.y 12 (.y 13 (.y 14 (.y 15 (.y 16 (.y 17 (.y 18 (.y 19 (.y 20 (.y 21 (.y 22 (.y 23 (.y 24 (.y 25 (.y 28 (.e 26 (.y 27 .nil))))))))))))))))))))))))))))) (fun w' => Ext W w') (by kernel_rfl) (by as_aux_lemma => kernel_rfl) (fun _ _ _ _ _ h => h) (by (repeat (first | assumption | exact Ext.refl _ | refine Ext.drew ?_ | refine Ext.alloc ?_ _ | refine Ext.drewN ?_ _ | refine Ext.trans ?_ (by assumption)))) ?_
  have e0 : Ext W W.drew := (Ext.refl _).drew
  generalize W.drew = q0 at e0 ⊢
  have hY0 := hY.trans e0
  (first | (refine tr_off (a' := ?_) rfl rfl (by rfl) ?_ ?_; rotate_left 1; (· simp only [Act.put, zzA, zz0, zzS]; rfl)) | (refine tr_y (v := ?_) (a' := ?_) rfl rfl (by rfl) (fun w' hw' => ?_) ?_ ?_; rotate_left 2; (· go_simp; with_reducible rfl); (· simp only [Act.put, zzA, zz0, zzS]; rfl)))
  (first | (refine tr_off (a' := ?_) rfl rfl (by rfl) ?_ ?_; rotate_left 1; (· simp only [Act.put, zzA, zz0, zzS]; rfl)) | (refine tr_y (v := ?_) (a' := ?_) rfl rfl (by rfl) (fun w' hw' => ?_) ?_ ?_; rotate_left 2; (· go_simp; with_reducible rfl); (· simp only [Act.put, zzA, zz0, zzS]; rfl)))
  (first | (refine tr_off (a' := ?_) rfl rfl (by rfl) ?_ ?_; rotate_left 1; (· simp only [Act.put, zzA, zz0, zzS]; rfl)) | (refine tr_y (v := ?_) (a' := ?_) rfl rfl (by rfl) (fun w' hw' => ?_) ?_ ?_; rotate_left 2; (· go_simp; with_reducible rfl); (· simp only [Act.put, zzA, zz0, zzS]; rfl)))
  (first | (refine tr_off (a' := ?_) rfl rfl (by rfl) ?_ ?_; rotate_left 1; (· simp only [Act.put, zzA, zz0, zzS]; rfl)) | (refine tr_y (v := ?_) (a' := ?_) rfl rfl (by rfl) (fun w' hw' => ?_) ?_ ?_; rotate_left 2; (· go_simp; with_reducible rfl); (· simp only [Act.put, zzA, zz0, zzS]; rfl)))
  (first | (refine tr_off (a' := ?_) rfl rfl (by rfl) ?_ ?_; rotate_left 1; (· simp only [Act.put, zzA, zz0, zzS]; rfl)) | (refine tr_y (v := ?_) (a' := ?_) rfl rfl (by rfl) (fun w' hw' => ?_) ?_ ?_; rotate_left 2; (· go_simp; with_reducible rfl); (· simp only [Act.put, zzA, zz0, zzS]; rfl)))
  (first | (refine tr_off (a' := ?_) rfl rfl (by rfl) ?_ ?_; rotate_left 1; (· simp only [Act.put, zzA, zz0, zzS]; rfl)) | (refine tr_y (v := ?_) (a' := ?_) rfl rfl (by rfl) (fun w' hw' => ?_) ?_ ?_; rotate_left 2; (· go_simp; with_reducible rfl); (· simp only [Act.put, zzA, zz0, zzS]; rfl)))
  (first | (refine tr_off (a' := ?_) rfl rfl (by rfl) ?_ ?_; rotate_left 1; (· simp only [Act.put, zzA, zz0, zzS]; rfl)) | (refine tr_y (v := ?_) (a' := ?_) rfl rfl (by rfl) (fun w' hw' => ?_) ?_ ?_; rotate_left 2; (· go_simp; with_reducible rfl); (· simp only [Act.put, zzA, zz0, zzS]; rfl)))
  (first | (refine tr_off (a' := ?_) rfl rfl (by rfl) ?_ ?_; rotate_left 1; (· simp only [Act.put, zzA, zz0, zzS]; rfl)) | (refine tr_y (v := ?_) (a' := ?_) rfl rfl (by rfl) (fun w' hw' => ?_) ?_ ?_; rotate_left 2; (· go_simp; with_reducible rfl); (· simp only [Act.put, zzA, zz0, zzS]; rfl)))
  (first | (refine tr_off (a' := ?_) rfl rfl (by rfl) ?_ ?_; rotate_left 1; (· simp only [Act.put, zzA, zz0, zzS]; rfl)) | (refine tr_y (v := ?_) (a' := ?_) rfl rfl (by rfl) (fun w' hw' => ?_) ?_ ?_; rotate_left 2; (· go_simp; with_reducible rfl); (· simp only [Act.put, zzA, zz0, zzS]; rfl)))
  (first | (refine tr_off (a' := ?_) rfl rfl (by rfl) ?_ ?_; rotate_left 1; (· simp only [Act.put, zzA, zz0, zzS]; rfl)) | (refine tr_y (v := ?_) (a' := ?_) rfl rfl (by rfl) (fun w' hw' => ?_) ?_ ?_; rotate_left 2; (· go_simp; with_reducible rfl); (· simp only [Act.put, zzA, zz0, zzS]; rfl)))
  (first | (refine tr_off (a' := ?_) rfl rfl (by rfl) ?_ ?_; rotate_left 1; (· simp only [Act.put, zzA, zz0, zzS]; rfl)) | (refine tr_y (v := ?_) (a' := ?_) rfl rfl (by rfl) (fun w' hw' => ?_) ?_ ?_; rotate_left 2; (· go_simp; with_reducible rfl); (· simp only [Act.put, zzA, zz0, zzS]; rfl)))
  (first | (refine tr_off (a' := ?_) rfl rfl (by rfl) ?_ ?_; rotate_left 1; (· simp only [Act.put, zzA, zz0, zzS]; rfl)) | (refine tr_y (v := ?_) (a' := ?_) rfl rfl (by rfl) (fun w' hw' => ?_) ?_ ?_; rotate_left 2; (· go_simp; with_reducible rfl); (· simp only [Act.put, zzA, zz0, zzS]; rfl)))
  (first | (refine tr_off (a' := ?_) rfl rfl (by rfl) ?_ ?_; rotate_left 1; (· simp only [Act.put, zzA, zz0, zzS]; rfl)) | (refine tr_y (v := ?_) (a' := ?_) rfl rfl (by rfl) (fun w' hw' => ?_) ?_ ?_; rotate_left 2; (· go_simp; with_reducible rfl); (· simp only [Act.put, zzA, zz0, zzS]; rfl)))
  (first | (refine tr_off (a' := ?_) rfl rfl (by rfl) ?_ ?_; rotate_left 1; (· simp only [Act.put, zzA, zz0, zzS]; rfl)) | (refine tr_y (v := ?_) (a' := ?_) rfl rfl (by rfl) (fun w' hw' => ?_) ?_ ?_; rotate_left 2; (· go_simp; with_reducible rfl); (· simp only [Act.put, zzA, zz0, zzS]; rfl)))
  (first | (refine tr_off (a' := ?_) rfl rfl (by rfl) ?_ ?_; rotate_left 1; (· simp only [Act.put, zzA, zz0, zzS]; rfl)) | (refine tr_y (v := ?_) (a' := ?_) rfl rfl (by rfl) (fun w' hw' => ?_) ?_ ?_; rotate_left 2; (· go_simp; with_reducible rfl); (· simp only [Act.put, zzA, zz0, zzS]; rfl)))
  (first | (refine tr_off (a' := ?_) rfl rfl (by rfl) ?_ ?_; rotate_left 1; (· simp only [Act.put, zzA, zz0, zzS]; rfl)) | (refine tr_y (v := ?_) (a' := ?_) rfl rfl (by rfl) (fun w' hw' => ?_) ?_ ?_; rotate_left 2; (· go_simp; with_reducible rfl); (· simp only [Act.put, zzA, zz0, zzS]; rfl)))
  (first | (refine tr_off (a' := ?_) rfl rfl (by rfl) ?_ ?_; rotate_left 1; (· simp only [Act.put, zzA, zz0, zzS]; rfl)) | (refine tr_y (v := ?_) (a' := ?_) rfl rfl (by rfl) (fun w' hw' => ?_) ?_ ?_; rotate_left 2; (· go_simp; with_reducible rfl); (· simp only [Act.put, zzA, zz0, zzS]; rfl)))
  (first | (refine tr_off (a' := ?_) rfl rfl (by rfl) ?_ ?_; rotate_left 1; (· simp only [Act.put, zzA, zz0, zzS]; rfl)) | (refine tr_y (v := ?_) (a' := ?_) rfl rfl (by rfl) (fun w' hw' => ?_) ?_ ?_; rotate_left 2; (· go_simp; with_reducible rfl); (· simp only [Act.put, zzA, zz0, zzS]; rfl)))
  (first | (refine tr_off (a' := ?_) rfl rfl (by rfl) ?_ ?_; rotate_left 1; (· simp only [Act.put, zzA, zz0, zzS]; rfl)) | (refine tr_y (v := ?_) (a' := ?_) rfl rfl (by rfl) (fun w' hw' => ?_) ?_ ?_; rotate_left 2; (· go_simp; with_reducible rfl); (· simp only [Act.put, zzA, zz0, zzS]; rfl)))
  (first | (refine tr_off (a' := ?_) rfl rfl (by rfl) ?_ ?_; rotate_left 1; (· simp only [Act.put, zzA, zz0, zzS]; rfl)) | (refine tr_y (v := ?_) (a' := ?_) rfl rfl (by rfl) (fun w' hw' => ?_) ?_ ?_; rotate_left 2; (· go_simp; with_reducible rfl); (· simp only [Act.put, zzA, zz0, zzS]; rfl)))
  refine tr_y (v := ?_) (a' := ?_) rfl rfl (by rfl) (fun w' hw' => ?_) ?_ ?_
  rotate_left 2
  · (refine (run_op_load rfl ?_ (lg w' hw')).trans ?_; (· rfl); (· with_reducible rfl))
  · simp only [Act.put, zzA, zz0, zzS]; rfl
  (first | (refine tr_off (a' := ?_) rfl rfl (by rfl) ?_ ?_; rotate_left 1; (· simp only [Act.put, zzA, zz0, zzS]; rfl)) | (refine tr_y (v := ?_) (a' := ?_) rfl rfl (by rfl) (fun w' hw' => ?_) ?_ ?_; rotate_left 2; (· go_simp; with_reducible rfl); (· simp only [Act.put, zzA, zz0, zzS]; rfl)))
  (first | (refine tr_off (a' := ?_) rfl rfl (by rfl) ?_ ?_; rotate_left 1; (· simp only [Act.put, zzA, zz0, zzS]; rfl)) | (refine tr_y (v := ?_) (a' := ?_) rfl rfl (by rfl) (fun w' hw' => ?_) ?_ ?_; rotate_left 2; (· go_simp; with_reducible rfl); (· simp only [Act.put, zzA, zz0, zzS]; rfl)))
  (first | (refine tr_off (a' := ?_) rfl rfl (by rfl) ?_ ?_; rotate_left 1; (· simp only [Act.put, zzA, zz0, zzS]; rfl)) | (refine tr_y (v := ?_) (a' := ?_) rfl rfl (by rfl) (fun w' hw' => ?_) ?_ ?_; rotate_left 2; (· go_simp; with_reducible rfl); (· simp only [Act.put, zzA, zz0, zzS]; rfl)))
  (first | (refine tr_off (a' := ?_) rfl rfl (by rfl) ?_ ?_; rotate_left 1; (· simp only [Act.put, zzA, zz0, zzS]; rfl)) | (refine tr_y (v := ?_) (a' := ?_) rfl rfl (by rfl) (fun w' hw' => ?_) ?_ ?_; rotate_left 2; (· go_simp; with_reducible rfl); (· simp only [Act.put, zzA, zz0, zzS]; rfl)))
  (first | (refine tr_off (a' := ?_) rfl rfl (by rfl) ?_ ?_; rotate_left 1; (· simp only [Act.put, zzA, zz0, zzS]; rfl)) | (refine tr_y (v := ?_) (a' := ?_) rfl rfl (by rfl) (fun w' hw' => ?_) ?_ ?_; rotate_left 2; (· go_simp; with_reducible rfl); (· simp only [Act.put, zzA, zz0, zzS]; rfl)))
  (first | (refine tr_off (a' := ?_) rfl rfl (by rfl) ?_ ?_; rotate_left 1; (· simp only [Act.put, zzA, zz0, zzS]; rfl)) | (refine tr_y (v := ?_) (a' := ?_) rfl rfl (by rfl) (fun w' hw' => ?_) ?_ ?_; rotate_left 2; (· go_simp; with_reducible rfl); (· simp only [Act.put, zzA, zz0, zzS]; rfl)))
  have b31 := Blk.new q0 4 #[.bool b0, .bool b1, .bool b2, .bool b3, .bool b4, .bool b5, .bool b6, .bool b7]
  have e1 : Ext q0 (q0.alloc (.cells #[.bool b0, .bool b1, .bool b2, .bool b3, .bool b4, .bool b5, .bool b6, .bool b7] 4)) := (Ext.refl _).alloc _
  have hY1 := hY0.trans e1
  refine tr_value (v := ?_) (w1 := ?_) (a' := ?_) rfl rfl (by rfl) ?_ ?_ ?_ ?_
  rotate_left 3
  · go_simp; refine ⟨?_, ?_⟩ <;> with_reducible rfl
  · exact hY1
  · simp only [Act.put, zzA, zz0, zzS]; rfl
  generalize q0.alloc (.cells #[.bool b0, .bool b1, .bool b2, .bool b3, .bool b4, .bool b5, .bool b6, .bool b7] 4) = q1 at b31 e1 hY1 ⊢
  generalize q0.heap.size = g31 at b31 ⊢
  (first | (refine tr_off (a' := ?_) rfl rfl (by rfl) ?_ ?_; rotate_left 1; (· simp only [Act.put, zzA, zz0, zzS]; rfl)) | (refine tr_y (v := ?_) (a' := ?_) rfl rfl (by rfl) (fun w' hw' => ?_) ?_ ?_; rotate_left 2; (· go_simp; with_reducible rfl); (· simp only [Act.put, zzA, zz0, zzS]; rfl)))
  refine tr_end ?_
  refine NoPanic.normal ?_
  have hcell : ∀ k, k < 8 → q1.cell? ⟨g31, k, none⟩ = some (.bool ([b0, b1, b2, b3, b4, b5, b6, b7].getD k false)) := fun k hk => b31.cell k (by
    obtain rfl | rfl | rfl | rfl | rfl | rfl | rfl | rfl : k = 0 ∨ k = 1 ∨ k = 2 ∨ k = 3 ∨ k = 4 ∨ k = 5 ∨ k = 6 ∨ k = 7 := by omega
    all_goals rfl)
  have hst := fun (k : Nat) (h : k < 8) => mask_step b0 b1 b2 b3 b4 b5 b6 b7 ⟨k, h⟩
  have hll : [b0, b1, b2, b3, b4, b5, b6, b7].length = 8 := rfl
  clear h0 h1 h2 h3 h4 h5 h7 en lg b31
  simp only at hst
  generalize hl0 : [b0, b1, b2, b3, b4, b5, b6, b7] = l at *
  have HL0 := Lib.hid hl0
  clear hl0
  go_wp2_with fail
  go_loopw [2, 33] (fun s i wr => ∃ k : Nat, k ≤ 8 ∧ i = .int .i64 k ∧ s = .int .u64 (maskN (l.take k) 0) ∧ wr = q1) (fun _ i _ => 8 - (intOf i).toNat)
  case atStart => exact ⟨0, by omega, rfl, rfl, by trivial⟩
  case round =>
    obtain ⟨k, hk8, rfl, rfl, rfl⟩ := hrel
    by_cases hlt : k < 8
    · have x0 := hcell k hlt
      have hs := hst k hlt
      cases hv : l.getD k false
      · rw [hv] at x0
        have hm := mask_same l k (by rw [List.getD_eq_getElem?_getD, List.getElem?_eq_getElem (by omega)] at hv; rw [List.getElem?_eq_getElem (by omega)]; simpa using hv)
        have HM := Lib.hid hm
        clear hs hv hst hcell hm
        go_wp2_with fail
        go_roundw
        case rel => exact ⟨k + 1, by omega, by go_num, by rw [HM.out], by trivial⟩
        case measure => simp [intOf]; omega
      · rw [hv] at x0
        have hm := hs hv
        have hw : IntKind.u64.wrap ((2 : Int) ^ k) = ((2 ^ k : Nat) : Int) := by
          obtain rfl | rfl | rfl | rfl | rfl | rfl | rfl | rfl : k = 0 ∨ k = 1 ∨ k = 2 ∨ k = 3 ∨ k = 4 ∨ k = 5 ∨ k = 6 ∨ k = 7 := by omega
          all_goals rfl
        have HM := Lib.hid hm
        have HW := Lib.hid hw
        clear hs hv hst hcell hm hw
        go_wp2_with fail
        go_roundw
        case rel => exact ⟨k + 1, by omega, by go_num, by rw [HW.out, HM.out], by trivial⟩
        case measure => simp [intOf]; omega
    · obtain rfl : k = 8 := by omega
      rw [List.take_of_length_le (by omega)]
      go_wp2_with fail
      go_ret
      exact ⟨ret_int (by rw [HL0.out]), hE.trans hY1⟩
end Go.Proofs.YtgfhbachgniipaaDoor

namespace Go.Proofs.YtgfhbachgniipaaDoor
open Go.RowKit
open Go.Shelf
section
variable {P : Program} {ops : Array Oper} {Q : Exit → Act → World → Prop} {S : World → Prop} {i : Nat} {r : Tr} {o : Oper} {n : Tmp} {a : Act} {w : World}
theorem tr_callv {x : Operand} {f : FuncId} {fn : Func} {ar : Array Operand} {ts : Array TypeId} (hi : ops[i]? = some o) (hf : P.funcs[f]? = some fn) (hname : (fn.name == "runtime.NumGoroutine") = false) (hb : fn.body.isSome = true) (args caps : Array Value)
    (hw : Region.wanted o (yielded ops a.tmps) = true) (hN : o.dst = some n) (hop : o.op = .call { callee := .value x, args := ar, argTypes := ts }) (hx : a.eval x = .func (.func f) #[] caps) (hargs : ar.map a.eval ++ caps = args)
    (h : Calls P f args w fun e w' => ∃ v a', e = .returned v ∧ S w' ∧ a.put (some n) v = a' ∧ wpTr P ops Q S r a' w') : wpTr P ops Q S (.e i r) a w := by
  have he := enters hf hname hb args w
  have hrun : (execOp a.eval o).run P w = .ok (.enter f args) w := by
    unfold execOp
    simp [hop, resolve, Deferred.ofValue, hx, invoke, hargs, he]
  show wpOp P ops Q i _ a w
  unfold Go.wpOp
  simp only [hi, hw, if_true]
  refine .inl ?_
  unfold Oper.wp
  rw [hrun, Oper.upon_enter]
  refine h.mono fun e w'' hh => ?_
  obtain ⟨v, a', rfl, hS, ha, hk⟩ := hh
  rw [hN]
  show (S w'' ∨ _) ∧ wpTr P ops Q S r (a.put (some n) v) w''
  rw [ha]
  exact ⟨.inl hS, hk⟩
end
theorem wpList_load_w {P : Program} {ops : Array Oper} {rest : List Oper} {o : Oper} {a : Act} {w : World} {Q : Exit → Act → World → Prop} (hw : Region.wanted o (yielded ops a.tmps) = true) {ty : TypeId} {x : Operand} (ho : o.op = .load ty x) {p v : Value} (hx : a.eval x = p) (h : (Instr.loadAt ty p).run P w = .ok v w)
    (k : wpList P ops Q rest (a.put o.dst v) w) : wpList P ops Q (o :: rest) a w := by
  refine pl_step hw ?_
  unfold Oper.wp
  rw [run_op_load ho hx h, Oper.upon_value]
  exact k
theorem hasK (w : World) (g k : Nat) (i : Nat) (hk : k < 9) (hi : i < 8) (x : w.cell? ⟨g, 0, none⟩ = some (.int .u64 (ofT k))) : Calls Tryd.prog 16 #[.int .u64 ((2 ^ i : Nat) : Int), .pointer (some ⟨g, 0, none⟩)] w fun e w' => e = .returned (.bool (hasF k i)) ∧ Ext w w' := by
  have h := has_any w g (ofT k) ((2 ^ i : Nat) : Int) x
  have e := hasM_F ⟨k, hk⟩ ⟨i, hi⟩
  simp only at e
  have e2 : ((2 ^ i : Nat) : Int) = (2 : Int) ^ i := by simp
  rw [← e2] at e
  rw [e] at h
  exact h.mono (by rintro e9 w9 ⟨rfl, rfl⟩; exact ⟨rfl, Ext.refl _⟩)
theorem odd_ext (must : Bool) (n a b : Int) (w : World) : Calls Tryd.prog 19 #[.bool must, .int .i64 n, .int .i64 a, .int .i64 b] w fun e w' => e = .returned (.bool (oddG must n a b)) ∧ Ext w w' :=
  (odd_any must n a b w).mono (by rintro e9 w9 ⟨rfl, rfl⟩; exact ⟨rfl, Ext.refl _⟩)
theorem grCheck_any (g : Grant) (w : World) (hs : g.p.size ≤ 9223372036854775807) : Calls Tryd.prog 22 #[.agg (grA g)] w fun e w' => e = .returned (.int .i64 (checkG g.r g.p g.x g.u)) ∧ Ext w w' := check_any g.r g.p g.x g.u w hs
structure CmdLen (c : Cmd) : Prop where
  n : c.tok.gs.length ≤ 1000000
  p : ∀ g ∈ c.tok.gs, g.p.size ≤ 9223372036854775807
  m : c.bodies.length ≤ 1000000
  x : ∀ x ∈ c.bodies, x.length ≤ 9223372036854775807
  st : c.st.size ≤ 9223372036854775807
  su : c.su.size ≤ 9223372036854775807
  gp : c.gr.p.size ≤ 9223372036854775807
theorem foreign_mask (c : Cmd) (k : Nat) (hk : c.kind = k) (hk8 : k ≤ 8) : (bits .andNot .u64 (maskN (giveG c) 0 : Nat) (ofT k : Nat) != 0) = foreignG c := by
  have h := mask_eight (!c.st.toList.isEmpty) (!c.su.toList.isEmpty) (decide (c.ex ≠ 0)) (decide (0 < c.bodies.length)) (decide (c.fr ≠ 0)) (decide (c.ct ≠ 0)) (!zeroG c.gr) (decide (c.id ≠ 0)) ⟨k, by omega⟩
  simp only at h
  unfold foreignG
  rw [hk]
  exact h
set_option maxHeartbeats 9000000 in
set_option maxRecDepth 100000 in
theorem cmdCheck_any (w : World) (c : Cmd) (a b : Value) (hO : OfAt w) (hG : GsV w c.tok.gs a) (hD : BsV w c.bodies b) (hl : CmdLen c) :
    Calls Tryd.prog 7 #[.agg (cmdA c a b)] w fun e w' => e = .returned (.int .i64 (cmdG c)) ∧ Ext w w' := by
  have hgiv := fun (w' : World) (e : Ext w w') => given_any w' c a b (hD.ext e)
  have hlT := fun (w' : World) (e : Ext w w') => longT_any w' c.tok a (hG.ext e) hl.n hl.p
  obtain ⟨A, ca, rfl, hca, -⟩ := id hG
  obtain ⟨D, cb, rfl, hcb, hS⟩ := id hD
  have hlB := fun (w' : World) (e : Ext w w') => containsL_any w' D cb c.bodies (hS.ext e) hcb hl.m hl.x
  obtain ⟨W, hW, hE, bx⟩ := box1 w (cmdA c (.slice A c.tok.gs.length ca) (.slice D c.bodies.length cb)) 32
  have B1 : Blk W w.heap.size 32 (cmdA c (.slice A c.tok.gs.length ca) (.slice D c.bodies.length cb)) := by rw [hW]; exact Blk.new _ _ _
  have hOW := hO.ext hE
  have x0 : W.cell? ⟨w.heap.size, 0, none⟩ = some (.int .i64 c.kind) := bx 0 _ rfl
  by_cases hK : c.kind < 1 ∨ 8 < c.kind
  · have hv : cmdG c = 2 := by unfold cmdG; rw [if_pos hK]
    rw [hv]
    generalize cmdA c (.slice A c.tok.gs.length ca) (.slice D c.bodies.length cb) = C at *
    clear hv bx hO hG hD hS hgiv hlT hlB B1
    by_cases hK1 : c.kind < 1
    · go_enter Tryd.func7, Tryd.ntmps7
      go_upto_region 1 with fail
      rw [← hW]
      clear hW
      go_wp2_with fail
      go_ret
      exact ⟨rfl, hE⟩
    · have hK2 : 8 < c.kind := hK.resolve_left hK1
      clear hK
      go_enter Tryd.func7, Tryd.ntmps7
      go_upto_region 1 with fail
      rw [← hW]
      clear hW
      go_wp2_with fail
      go_ret
      exact ⟨rfl, hE⟩
  obtain ⟨k, hk⟩ : ∃ k : Nat, c.kind = k := ⟨c.kind.toNat, by omega⟩
  have hk1 : 1 ≤ k := by omega
  have hk8 : k ≤ 8 := by omega
  rw [hk] at x0
  have g0 := hOW k (by omega)
  have hcm : cmdG c = cmdG c := rfl
  conv at hcm => rhs; unfold cmdG
  rw [if_neg hK] at hcm
  clear hK
  have l0 := fun (w' : World) (e : Ext W w') => load_whole (B1.ext e) 32 _ Tryd.underlying32 rfl (by kernel_rfl)
  have l1 := fun (w' : World) (e : Ext W w') => load_part (B1.ext e) 1 (tokA c.tok (.slice A c.tok.gs.length ca)) [.int .i64 c.kind] [.string c.st, .string c.su, .int .i64 c.ex, (.slice D c.bodies.length cb), .int .i64 c.fr, .int .i64 c.ct, .int .i64 c.gr.r, .string c.gr.p, .bool c.gr.x, .int .i64 c.gr.u, .int .i64 c.id] rfl rfl 27 _ Tryd.underlying27 rfl (by kernel_rfl)
  have l8 := fun (w' : World) (e : Ext W w') => load_part (B1.ext e) 42 (grA c.gr) ([.int .i64 c.kind] ++ (tokA c.tok (.slice A c.tok.gs.length ca)).toList ++ [.string c.st, .string c.su, .int .i64 c.ex, .slice D c.bodies.length cb, .int .i64 c.fr, .int .i64 c.ct]) [.int .i64 c.id] rfl rfl 30 _ Tryd.underlying30 rfl (by kernel_rfl)
  have x3 : W.cell? ⟨w.heap.size, 3, none⟩ = some (.slice A c.tok.gs.length ca) := bx 3 _ rfl
  have xr3 := fun (w' : World) (h : Ext W w') => h.cellk x3
  clear x3
  have x36 : W.cell? ⟨w.heap.size, 36, none⟩ = some (.string c.st) := bx 36 _ rfl
  have xr36 := fun (w' : World) (h : Ext W w') => h.cellk x36
  clear x36
  have x37 : W.cell? ⟨w.heap.size, 37, none⟩ = some (.string c.su) := bx 37 _ rfl
  have xr37 := fun (w' : World) (h : Ext W w') => h.cellk x37
  clear x37
  have x38 : W.cell? ⟨w.heap.size, 38, none⟩ = some (.int .i64 c.ex) := bx 38 _ rfl
  have xr38 := fun (w' : World) (h : Ext W w') => h.cellk x38
  clear x38
  have x39 : W.cell? ⟨w.heap.size, 39, none⟩ = some (.slice D c.bodies.length cb) := bx 39 _ rfl
  have xr39 := fun (w' : World) (h : Ext W w') => h.cellk x39
  clear x39
  have x40 : W.cell? ⟨w.heap.size, 40, none⟩ = some (.int .i64 c.fr) := bx 40 _ rfl
  have xr40 := fun (w' : World) (h : Ext W w') => h.cellk x40
  clear x40
  have x41 : W.cell? ⟨w.heap.size, 41, none⟩ = some (.int .i64 c.ct) := bx 41 _ rfl
  have xr41 := fun (w' : World) (h : Ext W w') => h.cellk x41
  clear x41
  have x46 : W.cell? ⟨w.heap.size, 46, none⟩ = some (.int .i64 c.id) := bx 46 _ rfl
  have xr46 := fun (w' : World) (h : Ext W w') => h.cellk x46
  clear x46
  have hgc := fun (w' : World) => grCheck_any c.gr w' hl.gp
  have hun := fun (must : Bool) (w' : World) => unnamed_any must c.st w' hl.st
  have hun2 := fun (must : Bool) (w' : World) => unnamed_any must c.su w' hl.su
  generalize cmdA c (.slice A c.tok.gs.length ca) (.slice D c.bodies.length cb) = C at *
  generalize tokA c.tok (.slice A c.tok.gs.length ca) = T at *
  clear bx hO hG hD hS B1
  go_enter Tryd.func7, Tryd.ntmps7
  go_upto_region 1 with fail
  rw [← hW]
  clear hW
  go_upto_region 4 with fail
  obtain ⟨q, hq⟩ : ∃ q, W.heap.size = q := ⟨_, rfl⟩
  have hE1 : Ext W (W.alloc (.cells #[.int .u64 (ofT k)] 55)) := by (repeat (first | assumption | exact Ext.refl _ | refine Ext.set ?_ (Nat.le_refl _) _ | refine Ext.drew ?_ | refine Ext.alloc ?_ _ | refine Ext.drewN ?_ _ | refine Ext.trans ?_ (by assumption)))
  have D1 : Blk (W.alloc (.cells #[.int .u64 (ofT k)] 55)) W.heap.size 55 #[.int .u64 (ofT k)] := Blk.new W _ _
  generalize W.alloc (.cells #[.int .u64 (ofT k)] 55) = W1 at *
  rw [hq] at D1 ⊢
  clear g0 x0
  have h0 : ∀ w' : World, Ext W1 w' → Calls Tryd.prog 16 #[.int .u64 1, .pointer (some ⟨q, 0, none⟩)] w' fun e w'' => e = .returned (.bool (hasF c.kind 0)) ∧ Ext w' w'' := fun w' e => by rw [hk]; exact hasK w' q k 0 (by omega) (by decide) ((D1.ext e).cell 0 rfl)
  generalize hasF c.kind 0 = f0 at h0 hcm
  have h1 : ∀ w' : World, Ext W1 w' → Calls Tryd.prog 16 #[.int .u64 2, .pointer (some ⟨q, 0, none⟩)] w' fun e w'' => e = .returned (.bool (hasF c.kind 1)) ∧ Ext w' w'' := fun w' e => by rw [hk]; exact hasK w' q k 1 (by omega) (by decide) ((D1.ext e).cell 0 rfl)
  generalize hasF c.kind 1 = f1 at h1 hcm
  have h2 : ∀ w' : World, Ext W1 w' → Calls Tryd.prog 16 #[.int .u64 4, .pointer (some ⟨q, 0, none⟩)] w' fun e w'' => e = .returned (.bool (hasF c.kind 2)) ∧ Ext w' w'' := fun w' e => by rw [hk]; exact hasK w' q k 2 (by omega) (by decide) ((D1.ext e).cell 0 rfl)
  generalize hasF c.kind 2 = f2 at h2 hcm
  have h3 : ∀ w' : World, Ext W1 w' → Calls Tryd.prog 16 #[.int .u64 8, .pointer (some ⟨q, 0, none⟩)] w' fun e w'' => e = .returned (.bool (hasF c.kind 3)) ∧ Ext w' w'' := fun w' e => by rw [hk]; exact hasK w' q k 3 (by omega) (by decide) ((D1.ext e).cell 0 rfl)
  generalize hasF c.kind 3 = f3 at h3 hcm
  have h4 : ∀ w' : World, Ext W1 w' → Calls Tryd.prog 16 #[.int .u64 16, .pointer (some ⟨q, 0, none⟩)] w' fun e w'' => e = .returned (.bool (hasF c.kind 4)) ∧ Ext w' w'' := fun w' e => by rw [hk]; exact hasK w' q k 4 (by omega) (by decide) ((D1.ext e).cell 0 rfl)
  generalize hasF c.kind 4 = f4 at h4 hcm
  have h5 : ∀ w' : World, Ext W1 w' → Calls Tryd.prog 16 #[.int .u64 32, .pointer (some ⟨q, 0, none⟩)] w' fun e w'' => e = .returned (.bool (hasF c.kind 5)) ∧ Ext w' w'' := fun w' e => by rw [hk]; exact hasK w' q k 5 (by omega) (by decide) ((D1.ext e).cell 0 rfl)
  generalize hasF c.kind 5 = f5 at h5 hcm
  have h6 : ∀ w' : World, Ext W1 w' → Calls Tryd.prog 16 #[.int .u64 64, .pointer (some ⟨q, 0, none⟩)] w' fun e w'' => e = .returned (.bool (hasF c.kind 6)) ∧ Ext w' w'' := fun w' e => by rw [hk]; exact hasK w' q k 6 (by omega) (by decide) ((D1.ext e).cell 0 rfl)
  generalize hasF c.kind 6 = f6 at h6 hcm
  have h7 : ∀ w' : World, Ext W1 w' → Calls Tryd.prog 16 #[.int .u64 128, .pointer (some ⟨q, 0, none⟩)] w' fun e w'' => e = .returned (.bool (hasF c.kind 7)) ∧ Ext w' w'' := fun w' e => by rw [hk]; exact hasK w' q k 7 (by omega) (by decide) ((D1.ext e).cell 0 rfl)
  generalize hasF c.kind 7 = f7 at h7 hcm
  have un1 := fun (w' : World) => hun f0 w'
  have un2 := fun (w' : World) => hun2 f1 w'
  have od1 := fun (w' : World) => odd_ext f2 c.ex (-1) 1000 w'
  have od2 := fun (w' : World) => odd_ext f4 c.fr 1 1099511627776 w'
  have od3 := fun (w' : World) => odd_ext f5 c.ct 0 64 w'
  have od4 := fun (w' : World) => odd_ext f7 c.id 1 1099511627776 w'
  clear hun hun2
  generalize (!namedG c.st f0) = n1 at un1 hcm
  generalize (!namedG c.su f1) = n2 at un2 hcm
  generalize oddG f2 c.ex (-1) 1000 = o1 at od1 hcm
  generalize oddG f4 c.fr 1 1099511627776 = o2 at od2 hcm
  generalize oddG f5 c.ct 0 64 = o3 at od3 hcm
  generalize oddG f7 c.id 1 1099511627776 = o4 at od4 hcm
  generalize c.bodies.any longB = b1 at hlB hcm
  generalize longT c.tok = b2 at hlT hcm
  generalize hcg : checkG c.gr.r c.gr.p c.gr.x c.gr.u = gv at hgc hcm
  have hfo := foreign_mask c k hk hk8
  generalize foreignG c = fo at hcm hfo
  generalize maskN (giveG c) 0 = mg at hgiv hfo
  have yq := fun (w' : World) (e : Ext W1 w') => (D1.ext e).cell 0 (v := .int .u64 (ofT k)) rfl
  have hYW := hE.trans hE1
  have hY : Ext W1 W1 := Ext.refl W1
  have HC := Lib.hid hcm
  clear hcm
  have xr3 := fun (w' : World) (e : Ext W1 w') => xr3 w' (hE1.trans e)
  have xr36 := fun (w' : World) (e : Ext W1 w') => xr36 w' (hE1.trans e)
  have xr37 := fun (w' : World) (e : Ext W1 w') => xr37 w' (hE1.trans e)
  have xr38 := fun (w' : World) (e : Ext W1 w') => xr38 w' (hE1.trans e)
  have xr39 := fun (w' : World) (e : Ext W1 w') => xr39 w' (hE1.trans e)
  have xr40 := fun (w' : World) (e : Ext W1 w') => xr40 w' (hE1.trans e)
  have xr41 := fun (w' : World) (e : Ext W1 w') => xr41 w' (hE1.trans e)
  have xr46 := fun (w' : World) (e : Ext W1 w') => xr46 w' (hE1.trans e)
  have l0 := fun (w' : World) (e : Ext W1 w') => l0 w' (hE1.trans e)
  have l1 := fun (w' : World) (e : Ext W1 w') => l1 w' (hE1.trans e)
  have l8 := fun (w' : World) (e : Ext W1 w') => l8 w' (hE1.trans e)
  have hgiv := fun (w' : World) (e : Ext W1 w') => hgiv w' (hYW.trans e)
  have hlB := fun (w' : World) (e : Ext W1 w') => hlB w' (hYW.trans e)
  have hlT := fun (w' : World) (e : Ext W1 w') => hlT w' (hYW.trans e)
  go_upto_region 6 with fail
  cases n1
  rotate_left 1
  · refine wp_region_noPanic ?_
    refine tr_start (.y 0 (.y 2 (.y 3 (.e 1 (.e 4 (.y 5 (.y 6 (.y 7 (.y 8 (.y 9 (.y 10 (.y 11 (.y 12 .nil))))))))))))) (fun w' => Ext W1 w') (by kernel_rfl) (by as_aux_lemma => kernel_rfl) (fun _ _ _ _ _ h => h) (by (repeat (first | assumption | exact Ext.refl _ | refine Ext.drew ?_ | refine Ext.alloc ?_ _ | refine Ext.drewN ?_ _ | refine Ext.trans ?_ (by assumption)))) ?_
    have e0 : Ext W1 W1.drew := (Ext.refl _).drew
    generalize W1.drew = q0 at e0 ⊢
    have hY0 := hY.trans e0
    (first | (refine tr_off (a' := ?_) rfl rfl (by rfl) ?_ ?_; rotate_left 1; (· simp only [Act.put, zzA, zz0, zzS]; rfl)) | (refine tr_y (v := ?_) (a' := ?_) rfl rfl (by rfl) (fun w' hw' => ?_) ?_ ?_; rotate_left 2; (· go_simp; with_reducible rfl); (· simp only [Act.put, zzA, zz0, zzS]; rfl)))
    (first | (refine tr_off (a' := ?_) rfl rfl (by rfl) ?_ ?_; rotate_left 1; (· simp only [Act.put, zzA, zz0, zzS]; rfl)) | (refine tr_y (v := ?_) (a' := ?_) rfl rfl (by rfl) (fun w' hw' => ?_) ?_ ?_; rotate_left 2; (· go_simp; with_reducible rfl); (· simp only [Act.put, zzA, zz0, zzS]; rfl)))
    (first | (refine tr_off (a' := ?_) rfl rfl (by rfl) ?_ ?_; rotate_left 1; (· simp only [Act.put, zzA, zz0, zzS]; rfl)) | (refine tr_y (v := ?_) (a' := ?_) rfl rfl (by rfl) (fun w' hw' => ?_) ?_ ?_; rotate_left 2; (· go_simp; with_reducible rfl); (· simp only [Act.put, zzA, zz0, zzS]; rfl)))
    refine tr_callv (args := ?_) (caps := ?_) rfl Tryd.func16 (by kernel_rfl) rfl (by rfl) rfl rfl ?_ ?_ ?_
    rotate_left 2
    · rfl
    · go_simp; rfl
    (with_reducible refine (h0 _ hY0).mono ?_)
    rintro e q1 ⟨rfl, e1⟩
    have hY1 := hY0.trans e1
    refine ⟨_, _, rfl, hY1, (by simp only [Act.put, zzA, zz0, zzS]; rfl), ?_⟩
    refine tr_call (args := ?_) rfl Tryd.func18 (by kernel_rfl) rfl (by rfl) rfl rfl ?_ ?_
    rotate_left 1
    · go_simp; rfl
    (with_reducible refine (un1 _).mono ?_)
    rintro e q2 ⟨rfl, e2⟩
    have hY2 := hY1.trans e2
    refine ⟨_, _, rfl, hY2, (by simp only [Act.put, zzA, zz0, zzS]; rfl), ?_⟩
    (first | (refine tr_off (a' := ?_) rfl rfl (by rfl) ?_ ?_; rotate_left 1; (· simp only [Act.put, zzA, zz0, zzS]; rfl)) | (refine tr_y (v := ?_) (a' := ?_) rfl rfl (by rfl) (fun w' hw' => ?_) ?_ ?_; rotate_left 2; (· go_simp; with_reducible rfl); (· simp only [Act.put, zzA, zz0, zzS]; rfl)))
    (first | (refine tr_off (a' := ?_) rfl rfl (by rfl) ?_ ?_; rotate_left 1; (· simp only [Act.put, zzA, zz0, zzS]; rfl)) | (refine tr_y (v := ?_) (a' := ?_) rfl rfl (by rfl) (fun w' hw' => ?_) ?_ ?_; rotate_left 2; (· go_simp; with_reducible rfl); (· simp only [Act.put, zzA, zz0, zzS]; rfl)))
    (first | (refine tr_off (a' := ?_) rfl rfl (by rfl) ?_ ?_; rotate_left 1; (· simp only [Act.put, zzA, zz0, zzS]; rfl)) | (refine tr_y (v := ?_) (a' := ?_) rfl rfl (by rfl) (fun w' hw' => ?_) ?_ ?_; rotate_left 2; (· go_simp; with_reducible rfl); (· simp only [Act.put, zzA, zz0, zzS]; rfl)))
    (first | (refine tr_off (a' := ?_) rfl rfl (by rfl) ?_ ?_; rotate_left 1; (· simp only [Act.put, zzA, zz0, zzS]; rfl)) | (refine tr_y (v := ?_) (a' := ?_) rfl rfl (by rfl) (fun w' hw' => ?_) ?_ ?_; rotate_left 2; (· go_simp; with_reducible rfl); (· simp only [Act.put, zzA, zz0, zzS]; rfl)))
    (first | (refine tr_off (a' := ?_) rfl rfl (by rfl) ?_ ?_; rotate_left 1; (· simp only [Act.put, zzA, zz0, zzS]; rfl)) | (refine tr_y (v := ?_) (a' := ?_) rfl rfl (by rfl) (fun w' hw' => ?_) ?_ ?_; rotate_left 2; (· go_simp; with_reducible rfl); (· simp only [Act.put, zzA, zz0, zzS]; rfl)))
    (first | (refine tr_off (a' := ?_) rfl rfl (by rfl) ?_ ?_; rotate_left 1; (· simp only [Act.put, zzA, zz0, zzS]; rfl)) | (refine tr_y (v := ?_) (a' := ?_) rfl rfl (by rfl) (fun w' hw' => ?_) ?_ ?_; rotate_left 2; (· go_simp; with_reducible rfl); (· simp only [Act.put, zzA, zz0, zzS]; rfl)))
    (first | (refine tr_off (a' := ?_) rfl rfl (by rfl) ?_ ?_; rotate_left 1; (· simp only [Act.put, zzA, zz0, zzS]; rfl)) | (refine tr_y (v := ?_) (a' := ?_) rfl rfl (by rfl) (fun w' hw' => ?_) ?_ ?_; rotate_left 2; (· go_simp; with_reducible rfl); (· simp only [Act.put, zzA, zz0, zzS]; rfl)))
    (first | (refine tr_off (a' := ?_) rfl rfl (by rfl) ?_ ?_; rotate_left 1; (· simp only [Act.put, zzA, zz0, zzS]; rfl)) | (refine tr_y (v := ?_) (a' := ?_) rfl rfl (by rfl) (fun w' hw' => ?_) ?_ ?_; rotate_left 2; (· go_simp; with_reducible rfl); (· simp only [Act.put, zzA, zz0, zzS]; rfl)))
    refine tr_end ?_
    refine NoPanic.normal ?_
    go_wp2_with fail
    go_ret
    exact ⟨ret_int (by rw [HC.out]; simp), hYW.trans hY2⟩
  refine wp_region_noPanic ?_
  refine tr_start (.y 0 (.y 2 (.y 3 (.e 1 (.e 4 (.y 5 (.y 6 (.y 8 (.y 9 (.e 7 (.e 10 (.y 11 (.y 12 .nil))))))))))))) (fun w' => Ext W1 w') (by kernel_rfl) (by as_aux_lemma => kernel_rfl) (fun _ _ _ _ _ h => h) (by (repeat (first | assumption | exact Ext.refl _ | refine Ext.drew ?_ | refine Ext.alloc ?_ _ | refine Ext.drewN ?_ _ | refine Ext.trans ?_ (by assumption)))) ?_
  have e0 : Ext W1 W1.drew := (Ext.refl _).drew
  generalize W1.drew = q0 at e0 ⊢
  have hY0 := hY.trans e0
  (first | (refine tr_off (a' := ?_) rfl rfl (by rfl) ?_ ?_; rotate_left 1; (· simp only [Act.put, zzA, zz0, zzS]; rfl)) | (refine tr_y (v := ?_) (a' := ?_) rfl rfl (by rfl) (fun w' hw' => ?_) ?_ ?_; rotate_left 2; (· go_simp; with_reducible rfl); (· simp only [Act.put, zzA, zz0, zzS]; rfl)))
  (first | (refine tr_off (a' := ?_) rfl rfl (by rfl) ?_ ?_; rotate_left 1; (· simp only [Act.put, zzA, zz0, zzS]; rfl)) | (refine tr_y (v := ?_) (a' := ?_) rfl rfl (by rfl) (fun w' hw' => ?_) ?_ ?_; rotate_left 2; (· go_simp; with_reducible rfl); (· simp only [Act.put, zzA, zz0, zzS]; rfl)))
  (first | (refine tr_off (a' := ?_) rfl rfl (by rfl) ?_ ?_; rotate_left 1; (· simp only [Act.put, zzA, zz0, zzS]; rfl)) | (refine tr_y (v := ?_) (a' := ?_) rfl rfl (by rfl) (fun w' hw' => ?_) ?_ ?_; rotate_left 2; (· go_simp; with_reducible rfl); (· simp only [Act.put, zzA, zz0, zzS]; rfl)))
  refine tr_callv (args := ?_) (caps := ?_) rfl Tryd.func16 (by kernel_rfl) rfl (by rfl) rfl rfl ?_ ?_ ?_
  rotate_left 2
  · rfl
  · go_simp; rfl
  (with_reducible refine (h0 _ hY0).mono ?_)
  rintro e q1 ⟨rfl, e1⟩
  have hY1 := hY0.trans e1
  refine ⟨_, _, rfl, hY1, (by simp only [Act.put, zzA, zz0, zzS]; rfl), ?_⟩
  refine tr_call (args := ?_) rfl Tryd.func18 (by kernel_rfl) rfl (by rfl) rfl rfl ?_ ?_
  rotate_left 1
  · go_simp; rfl
  (with_reducible refine (un1 _).mono ?_)
  rintro e q2 ⟨rfl, e2⟩
  have hY2 := hY1.trans e2
  refine ⟨_, _, rfl, hY2, (by simp only [Act.put, zzA, zz0, zzS]; rfl), ?_⟩
  (first | (refine tr_off (a' := ?_) rfl rfl (by rfl) ?_ ?_; rotate_left 1; (· simp only [Act.put, zzA, zz0, zzS]; rfl)) | (refine tr_y (v := ?_) (a' := ?_) rfl rfl (by rfl) (fun w' hw' => ?_) ?_ ?_; rotate_left 2; (· go_simp; with_reducible rfl); (· simp only [Act.put, zzA, zz0, zzS]; rfl)))
  (first | (refine tr_off (a' := ?_) rfl rfl (by rfl) ?_ ?_; rotate_left 1; (· simp only [Act.put, zzA, zz0, zzS]; rfl)) | (refine tr_y (v := ?_) (a' := ?_) rfl rfl (by rfl) (fun w' hw' => ?_) ?_ ?_; rotate_left 2; (· go_simp; with_reducible rfl); (· simp only [Act.put, zzA, zz0, zzS]; rfl)))
  (first | (refine tr_off (a' := ?_) rfl rfl (by rfl) ?_ ?_; rotate_left 1; (· simp only [Act.put, zzA, zz0, zzS]; rfl)) | (refine tr_y (v := ?_) (a' := ?_) rfl rfl (by rfl) (fun w' hw' => ?_) ?_ ?_; rotate_left 2; (· go_simp; with_reducible rfl); (· simp only [Act.put, zzA, zz0, zzS]; rfl)))
  (first | (refine tr_off (a' := ?_) rfl rfl (by rfl) ?_ ?_; rotate_left 1; (· simp only [Act.put, zzA, zz0, zzS]; rfl)) | (refine tr_y (v := ?_) (a' := ?_) rfl rfl (by rfl) (fun w' hw' => ?_) ?_ ?_; rotate_left 2; (· go_simp; with_reducible rfl); (· simp only [Act.put, zzA, zz0, zzS]; rfl)))
  refine tr_callv (args := ?_) (caps := ?_) rfl Tryd.func16 (by kernel_rfl) rfl (by rfl) rfl rfl ?_ ?_ ?_
  rotate_left 2
  · rfl
  · go_simp; rfl
  (with_reducible refine (h1 _ hY2).mono ?_)
  rintro e q3 ⟨rfl, e3⟩
  have hY3 := hY2.trans e3
  refine ⟨_, _, rfl, hY3, (by simp only [Act.put, zzA, zz0, zzS]; rfl), ?_⟩
  refine tr_call (args := ?_) rfl Tryd.func18 (by kernel_rfl) rfl (by rfl) rfl rfl ?_ ?_
  rotate_left 1
  · go_simp; rfl
  (with_reducible refine (un2 _).mono ?_)
  rintro e q4 ⟨rfl, e4⟩
  have hY4 := hY3.trans e4
  refine ⟨_, _, rfl, hY4, (by simp only [Act.put, zzA, zz0, zzS]; rfl), ?_⟩
  (first | (refine tr_off (a' := ?_) rfl rfl (by rfl) ?_ ?_; rotate_left 1; (· simp only [Act.put, zzA, zz0, zzS]; rfl)) | (refine tr_y (v := ?_) (a' := ?_) rfl rfl (by rfl) (fun w' hw' => ?_) ?_ ?_; rotate_left 2; (· go_simp; with_reducible rfl); (· simp only [Act.put, zzA, zz0, zzS]; rfl)))
  (first | (refine tr_off (a' := ?_) rfl rfl (by rfl) ?_ ?_; rotate_left 1; (· simp only [Act.put, zzA, zz0, zzS]; rfl)) | (refine tr_y (v := ?_) (a' := ?_) rfl rfl (by rfl) (fun w' hw' => ?_) ?_ ?_; rotate_left 2; (· go_simp; with_reducible rfl); (· simp only [Act.put, zzA, zz0, zzS]; rfl)))
  refine tr_end ?_
  refine NoPanic.normal ?_
  cases n2
  rotate_left 1
  · go_wp2_with fail
    go_ret
    exact ⟨ret_int (by rw [HC.out]; simp), hYW.trans hY4⟩
  clear un1 un2 h0 h1
  go_upto_region 8 with fail
  refine wp_region_noPanic ?_
  refine tr_start (.y 0 (.y 2 (.y 3 (.e 1 (.e 4 (.y 5 .nil)))))) (fun w' => Ext W1 w') (by kernel_rfl) (by as_aux_lemma => kernel_rfl) (fun _ _ _ _ _ h => h) (by (repeat (first | assumption | exact Ext.refl _ | refine Ext.drew ?_ | refine Ext.alloc ?_ _ | refine Ext.drewN ?_ _ | refine Ext.trans ?_ (by assumption)))) ?_
  have ea0 : Ext q4 q4.drew := (Ext.refl _).drew
  generalize q4.drew = qa0 at ea0 ⊢
  have hYa0 := hY4.trans ea0
  (first | (refine tr_off (a' := ?_) rfl rfl (by rfl) ?_ ?_; rotate_left 1; (· simp only [Act.put, zzA, zz0, zzS]; rfl)) | (refine tr_y (v := ?_) (a' := ?_) rfl rfl (by rfl) (fun w' hw' => ?_) ?_ ?_; rotate_left 2; (· go_simp; with_reducible rfl); (· simp only [Act.put, zzA, zz0, zzS]; rfl)))
  (first | (refine tr_off (a' := ?_) rfl rfl (by rfl) ?_ ?_; rotate_left 1; (· simp only [Act.put, zzA, zz0, zzS]; rfl)) | (refine tr_y (v := ?_) (a' := ?_) rfl rfl (by rfl) (fun w' hw' => ?_) ?_ ?_; rotate_left 2; (· go_simp; with_reducible rfl); (· simp only [Act.put, zzA, zz0, zzS]; rfl)))
  (first | (refine tr_off (a' := ?_) rfl rfl (by rfl) ?_ ?_; rotate_left 1; (· simp only [Act.put, zzA, zz0, zzS]; rfl)) | (refine tr_y (v := ?_) (a' := ?_) rfl rfl (by rfl) (fun w' hw' => ?_) ?_ ?_; rotate_left 2; (· go_simp; with_reducible rfl); (· simp only [Act.put, zzA, zz0, zzS]; rfl)))
  refine tr_callv (args := ?_) (caps := ?_) rfl Tryd.func16 (by kernel_rfl) rfl (by rfl) rfl rfl ?_ ?_ ?_
  rotate_left 2
  · rfl
  · go_simp; rfl
  (with_reducible refine (h2 _ hYa0).mono ?_)
  rintro e qa1 ⟨rfl, ea1⟩
  have hYa1 := hYa0.trans ea1
  refine ⟨_, _, rfl, hYa1, (by simp only [Act.put, zzA, zz0, zzS]; rfl), ?_⟩
  refine tr_call (args := ?_) rfl Tryd.func19 (by kernel_rfl) rfl (by rfl) rfl rfl ?_ ?_
  rotate_left 1
  · go_simp; rfl
  (with_reducible refine (od1 _).mono ?_)
  rintro e qa2 ⟨rfl, ea2⟩
  have hYa2 := hYa1.trans ea2
  refine ⟨_, _, rfl, hYa2, (by simp only [Act.put, zzA, zz0, zzS]; rfl), ?_⟩
  (first | (refine tr_off (a' := ?_) rfl rfl (by rfl) ?_ ?_; rotate_left 1; (· simp only [Act.put, zzA, zz0, zzS]; rfl)) | (refine tr_y (v := ?_) (a' := ?_) rfl rfl (by rfl) (fun w' hw' => ?_) ?_ ?_; rotate_left 2; (· go_simp; with_reducible rfl); (· simp only [Act.put, zzA, zz0, zzS]; rfl)))
  refine tr_end ?_
  refine NoPanic.normal ?_
  cases o1
  rotate_left 1
  · go_wp2_with fail
    go_ret
    exact ⟨ret_int (by rw [HC.out]; simp), hYW.trans hYa2⟩
  go_upto_region 9 with fail
  refine wp_region_noPanic ?_
  refine tr_start (.y 0 (.y 2 (.y 3 (.e 1 (.e 4 (.y 5 .nil)))))) (fun w' => Ext W1 w') (by kernel_rfl) (by as_aux_lemma => kernel_rfl) (fun _ _ _ _ _ h => h) (by (repeat (first | assumption | exact Ext.refl _ | refine Ext.drew ?_ | refine Ext.alloc ?_ _ | refine Ext.drewN ?_ _ | refine Ext.trans ?_ (by assumption)))) ?_
  have eb0 : Ext qa2 qa2.drew := (Ext.refl _).drew
  generalize qa2.drew = qb0 at eb0 ⊢
  have hYb0 := hYa2.trans eb0
  (first | (refine tr_off (a' := ?_) rfl rfl (by rfl) ?_ ?_; rotate_left 1; (· simp only [Act.put, zzA, zz0, zzS]; rfl)) | (refine tr_y (v := ?_) (a' := ?_) rfl rfl (by rfl) (fun w' hw' => ?_) ?_ ?_; rotate_left 2; (· go_simp; with_reducible rfl); (· simp only [Act.put, zzA, zz0, zzS]; rfl)))
  (first | (refine tr_off (a' := ?_) rfl rfl (by rfl) ?_ ?_; rotate_left 1; (· simp only [Act.put, zzA, zz0, zzS]; rfl)) | (refine tr_y (v := ?_) (a' := ?_) rfl rfl (by rfl) (fun w' hw' => ?_) ?_ ?_; rotate_left 2; (· go_simp; with_reducible rfl); (· simp only [Act.put, zzA, zz0, zzS]; rfl)))
  (first | (refine tr_off (a' := ?_) rfl rfl (by rfl) ?_ ?_; rotate_left 1; (· simp only [Act.put, zzA, zz0, zzS]; rfl)) | (refine tr_y (v := ?_) (a' := ?_) rfl rfl (by rfl) (fun w' hw' => ?_) ?_ ?_; rotate_left 2; (· go_simp; with_reducible rfl); (· simp only [Act.put, zzA, zz0, zzS]; rfl)))
  refine tr_callv (args := ?_) (caps := ?_) rfl Tryd.func16 (by kernel_rfl) rfl (by rfl) rfl rfl ?_ ?_ ?_
  rotate_left 2
  · rfl
  · go_simp; rfl
  (with_reducible refine (h4 _ hYb0).mono ?_)
  rintro e qb1 ⟨rfl, eb1⟩
  have hYb1 := hYb0.trans eb1
  refine ⟨_, _, rfl, hYb1, (by simp only [Act.put, zzA, zz0, zzS]; rfl), ?_⟩
  refine tr_call (args := ?_) rfl Tryd.func19 (by kernel_rfl) rfl (by rfl) rfl rfl ?_ ?_
  rotate_left 1
  · go_simp; rfl
  (with_reducible refine (od2 _).mono ?_)
  rintro e qb2 ⟨rfl, eb2⟩
  have hYb2 := hYb1.trans eb2
  refine ⟨_, _, rfl, hYb2, (by simp only [Act.put, zzA, zz0, zzS]; rfl), ?_⟩
  (first | (refine tr_off (a' := ?_) rfl rfl (by rfl) ?_ ?_; rotate_left 1; (· simp only [Act.put, zzA, zz0, zzS]; rfl)) | (refine tr_y (v := ?_) (a' := ?_) rfl rfl (by rfl) (fun w' hw' => ?_) ?_ ?_; rotate_left 2; (· go_simp; with_reducible rfl); (· simp only [Act.put, zzA, zz0, zzS]; rfl)))
  refine tr_end ?_
  refine NoPanic.normal ?_
  cases o2
  rotate_left 1
  · go_wp2_with fail
    go_ret
    exact ⟨ret_int (by rw [HC.out]; simp), hYW.trans hYb2⟩
  go_upto_region 10 with fail
  refine wp_region_noPanic ?_
  refine tr_start (.y 0 (.y 2 (.y 3 (.e 1 (.e 4 (.y 5 .nil)))))) (fun w' => Ext W1 w') (by kernel_rfl) (by as_aux_lemma => kernel_rfl) (fun _ _ _ _ _ h => h) (by (repeat (first | assumption | exact Ext.refl _ | refine Ext.drew ?_ | refine Ext.alloc ?_ _ | refine Ext.drewN ?_ _ | refine Ext.trans ?_ (by assumption)))) ?_
  have ec0 : Ext qb2 qb2.drew := (Ext.refl _).drew
  generalize qb2.drew = qc0 at ec0 ⊢
  have hYc0 := hYb2.trans ec0
  (first | (refine tr_off (a' := ?_) rfl rfl (by rfl) ?_ ?_; rotate_left 1; (· simp only [Act.put, zzA, zz0, zzS]; rfl)) | (refine tr_y (v := ?_) (a' := ?_) rfl rfl (by rfl) (fun w' hw' => ?_) ?_ ?_; rotate_left 2; (· go_simp; with_reducible rfl); (· simp only [Act.put, zzA, zz0, zzS]; rfl)))
  (first | (refine tr_off (a' := ?_) rfl rfl (by rfl) ?_ ?_; rotate_left 1; (· simp only [Act.put, zzA, zz0, zzS]; rfl)) | (refine tr_y (v := ?_) (a' := ?_) rfl rfl (by rfl) (fun w' hw' => ?_) ?_ ?_; rotate_left 2; (· go_simp; with_reducible rfl); (· simp only [Act.put, zzA, zz0, zzS]; rfl)))
  (first | (refine tr_off (a' := ?_) rfl rfl (by rfl) ?_ ?_; rotate_left 1; (· simp only [Act.put, zzA, zz0, zzS]; rfl)) | (refine tr_y (v := ?_) (a' := ?_) rfl rfl (by rfl) (fun w' hw' => ?_) ?_ ?_; rotate_left 2; (· go_simp; with_reducible rfl); (· simp only [Act.put, zzA, zz0, zzS]; rfl)))
  refine tr_callv (args := ?_) (caps := ?_) rfl Tryd.func16 (by kernel_rfl) rfl (by rfl) rfl rfl ?_ ?_ ?_
  rotate_left 2
  · rfl
  · go_simp; rfl
  (with_reducible refine (h5 _ hYc0).mono ?_)
  rintro e qc1 ⟨rfl, ec1⟩
  have hYc1 := hYc0.trans ec1
  refine ⟨_, _, rfl, hYc1, (by simp only [Act.put, zzA, zz0, zzS]; rfl), ?_⟩
  refine tr_call (args := ?_) rfl Tryd.func19 (by kernel_rfl) rfl (by rfl) rfl rfl ?_ ?_
  rotate_left 1
  · go_simp; rfl
  (with_reducible refine (od3 _).mono ?_)
  rintro e qc2 ⟨rfl, ec2⟩
  have hYc2 := hYc1.trans ec2
  refine ⟨_, _, rfl, hYc2, (by simp only [Act.put, zzA, zz0, zzS]; rfl), ?_⟩
  (first | (refine tr_off (a' := ?_) rfl rfl (by rfl) ?_ ?_; rotate_left 1; (· simp only [Act.put, zzA, zz0, zzS]; rfl)) | (refine tr_y (v := ?_) (a' := ?_) rfl rfl (by rfl) (fun w' hw' => ?_) ?_ ?_; rotate_left 2; (· go_simp; with_reducible rfl); (· simp only [Act.put, zzA, zz0, zzS]; rfl)))
  refine tr_end ?_
  refine NoPanic.normal ?_
  cases o3
  rotate_left 1
  · go_wp2_with fail
    go_ret
    exact ⟨ret_int (by rw [HC.out]; simp), hYW.trans hYc2⟩
  go_upto_region 11 with fail
  refine wp_region_noPanic ?_
  refine tr_start (.y 0 (.y 2 (.y 3 (.e 1 (.e 4 (.y 5 .nil)))))) (fun w' => Ext W1 w') (by kernel_rfl) (by as_aux_lemma => kernel_rfl) (fun _ _ _ _ _ h => h) (by (repeat (first | assumption | exact Ext.refl _ | refine Ext.drew ?_ | refine Ext.alloc ?_ _ | refine Ext.drewN ?_ _ | refine Ext.trans ?_ (by assumption)))) ?_
  have ed0 : Ext qc2 qc2.drew := (Ext.refl _).drew
  generalize qc2.drew = qd0 at ed0 ⊢
  have hYd0 := hYc2.trans ed0
  (first | (refine tr_off (a' := ?_) rfl rfl (by rfl) ?_ ?_; rotate_left 1; (· simp only [Act.put, zzA, zz0, zzS]; rfl)) | (refine tr_y (v := ?_) (a' := ?_) rfl rfl (by rfl) (fun w' hw' => ?_) ?_ ?_; rotate_left 2; (· go_simp; with_reducible rfl); (· simp only [Act.put, zzA, zz0, zzS]; rfl)))
  (first | (refine tr_off (a' := ?_) rfl rfl (by rfl) ?_ ?_; rotate_left 1; (· simp only [Act.put, zzA, zz0, zzS]; rfl)) | (refine tr_y (v := ?_) (a' := ?_) rfl rfl (by rfl) (fun w' hw' => ?_) ?_ ?_; rotate_left 2; (· go_simp; with_reducible rfl); (· simp only [Act.put, zzA, zz0, zzS]; rfl)))
  (first | (refine tr_off (a' := ?_) rfl rfl (by rfl) ?_ ?_; rotate_left 1; (· simp only [Act.put, zzA, zz0, zzS]; rfl)) | (refine tr_y (v := ?_) (a' := ?_) rfl rfl (by rfl) (fun w' hw' => ?_) ?_ ?_; rotate_left 2; (· go_simp; with_reducible rfl); (· simp only [Act.put, zzA, zz0, zzS]; rfl)))
  refine tr_callv (args := ?_) (caps := ?_) rfl Tryd.func16 (by kernel_rfl) rfl (by rfl) rfl rfl ?_ ?_ ?_
  rotate_left 2
  · rfl
  · go_simp; rfl
  (with_reducible refine (h7 _ hYd0).mono ?_)
  rintro e qd1 ⟨rfl, ed1⟩
  have hYd1 := hYd0.trans ed1
  refine ⟨_, _, rfl, hYd1, (by simp only [Act.put, zzA, zz0, zzS]; rfl), ?_⟩
  refine tr_call (args := ?_) rfl Tryd.func19 (by kernel_rfl) rfl (by rfl) rfl rfl ?_ ?_
  rotate_left 1
  · go_simp; rfl
  (with_reducible refine (od4 _).mono ?_)
  rintro e qd2 ⟨rfl, ed2⟩
  have hYd2 := hYd1.trans ed2
  refine ⟨_, _, rfl, hYd2, (by simp only [Act.put, zzA, zz0, zzS]; rfl), ?_⟩
  (first | (refine tr_off (a' := ?_) rfl rfl (by rfl) ?_ ?_; rotate_left 1; (· simp only [Act.put, zzA, zz0, zzS]; rfl)) | (refine tr_y (v := ?_) (a' := ?_) rfl rfl (by rfl) (fun w' hw' => ?_) ?_ ?_; rotate_left 2; (· go_simp; with_reducible rfl); (· simp only [Act.put, zzA, zz0, zzS]; rfl)))
  refine tr_end ?_
  refine NoPanic.normal ?_
  cases o4
  rotate_left 1
  · go_wp2_with fail
    go_ret
    exact ⟨ret_int (by rw [HC.out]; simp), hYW.trans hYd2⟩
  have h6' := h6
  clear h6
  generalize c.bodies.length = m at *
  generalize c.tok.gs.length = p at *
  have a39 := xr39 _ hYd2
  cases f3
  · go_upto_region 14 with (go_at_call 16; (with_reducible refine (h3 _ hYd2).mono ?_); rintro e w7 ⟨rfl, hE7⟩)
    have hY7 := hYd2.trans hE7
    have a39 := xr39 _ hY7
    have a3 := xr3 _ hY7
    by_cases h4 : 4 < m
    · go_wp2_with fail
      go_ret
      exact ⟨ret_int (by rw [HC.out]; simp [*]), hYW.trans hY7⟩
    by_cases h6 : 6 < p
    · go_wp2_with fail
      go_ret
      exact ⟨ret_int (by rw [HC.out]; simp [*]), hYW.trans hY7⟩
    have lq1 := l1 _ hY7
    cases b1
    rotate_left 1
    · go_wp2_with (first | (go_at_call 20; (with_reducible refine (hlB _ hY7).mono ?_); rintro e w8 ⟨rfl, hE8⟩))
      have hY8 := Ext.trans hY7 hE8
      go_ret
      exact ⟨ret_int (by rw [HC.out]; simp [*]), hYW.trans hY8⟩
    cases b2
    rotate_left 1
    · go_wp2_with (first | (go_at_call 20; (with_reducible refine (hlB _ hY7).mono ?_); rintro e w8 ⟨rfl, hE8⟩; have hY8 := Ext.trans hY7 hE8; have lq2 := l1 _ hY8) | (refine wpList_load_w (by rfl) rfl ?_ lq2 ?_; (· rfl)) | (go_at_call 21; (with_reducible refine (hlT _ hY8).mono ?_); rintro e w9 ⟨rfl, hE9⟩))
      have hY9 := hY8.trans hE9
      go_ret
      exact ⟨ret_int (by rw [HC.out]; simp [*]), hYW.trans hY9⟩
    go_upto_region 18 with (first | (go_at_call 20; (with_reducible refine (hlB _ hY7).mono ?_); rintro e w8 ⟨rfl, hE8⟩; have hY8 := Ext.trans hY7 hE8; have lq2 := l1 _ hY8) | (refine wpList_load_w (by rfl) rfl ?_ lq2 ?_; (· rfl)) | (go_at_call 21; (with_reducible refine (hlT _ hY8).mono ?_); rintro e w9 ⟨rfl, hE9⟩))
    have hY9 := hY8.trans hE9
    cases f6
    · go_upto_region 22 with (go_at_call 16; (with_reducible refine (h6' _ hY9).mono ?_); rintro e w10 ⟨rfl, hE10⟩)
      have hY10 := hY9.trans hE10
      refine wp_region_noPanic ?_
      refine tr_start (.y 0 (.y 2 (.e 1 (.y 3 (.y 4 .nil))))) (fun w' => Ext W1 w') (by kernel_rfl) (by as_aux_lemma => kernel_rfl) (fun _ _ _ _ _ h => h) (by (repeat (first | assumption | exact Ext.refl _ | refine Ext.drew ?_ | refine Ext.alloc ?_ _ | refine Ext.drewN ?_ _ | refine Ext.trans ?_ (by assumption)))) ?_
      have ez0 : Ext w10 w10.drew := (Ext.refl _).drew
      generalize w10.drew = qz0 at ez0 ⊢
      have hYz0 := hY10.trans ez0
      refine tr_y (v := ?_) (a' := ?_) rfl rfl (by rfl) (fun w' hw' => ?_) ?_ ?_
      rotate_left 2
      · (refine (run_op_load rfl ?_ (l0 w' hw')).trans ?_; (· rfl); (· with_reducible rfl))
      · simp only [Act.put, zzA, zz0, zzS]; rfl
      (first | (refine tr_off (a' := ?_) rfl rfl (by rfl) ?_ ?_; rotate_left 1; (· simp only [Act.put, zzA, zz0, zzS]; rfl)) | (refine tr_y (v := ?_) (a' := ?_) rfl rfl (by rfl) (fun w' hw' => ?_) ?_ ?_; rotate_left 2; (· go_simp; with_reducible rfl); (· simp only [Act.put, zzA, zz0, zzS]; rfl)))
      refine tr_call (args := ?_) rfl Tryd.func23 (by kernel_rfl) rfl (by rfl) rfl rfl ?_ ?_
      rotate_left 1
      · go_simp; rfl
      (with_reducible refine (hgiv _ hYz0).mono ?_)
      rintro e qz1 ⟨rfl, ez1⟩
      have hYz1 := hYz0.trans ez1
      refine ⟨_, _, rfl, hYz1, (by simp only [Act.put, zzA, zz0, zzS]; rfl), ?_⟩
      (first | (refine tr_off (a' := ?_) rfl rfl (by rfl) ?_ ?_; rotate_left 1; (· simp only [Act.put, zzA, zz0, zzS]; rfl)) | (refine tr_y (v := ?_) (a' := ?_) rfl rfl (by rfl) (fun w' hw' => ?_) ?_ ?_; rotate_left 2; (· go_simp; with_reducible rfl); (· simp only [Act.put, zzA, zz0, zzS]; rfl)))
      (first | (refine tr_off (a' := ?_) rfl rfl (by rfl) ?_ ?_; rotate_left 1; (· simp only [Act.put, zzA, zz0, zzS]; rfl)) | (refine tr_y (v := ?_) (a' := ?_) rfl rfl (by rfl) (fun w' hw' => ?_) ?_ ?_; rotate_left 2; (· go_simp; with_reducible rfl); (· simp only [Act.put, zzA, zz0, zzS]; rfl)))
      refine tr_end ?_
      refine NoPanic.normal ?_
      cases fo
      · go_wp2_with fail
        go_ret
        exact ⟨ret_int (by rw [HC.out]; simp [*]), hYW.trans hYz1⟩
      · go_wp2_with fail
        go_ret
        exact ⟨ret_int (by rw [HC.out]; simp [*]), hYW.trans hYz1⟩
    by_cases hgz : gv = 0
    · go_upto_region 22 with (first | (go_at_call 16; (with_reducible refine (h6' _ hY9).mono ?_); rintro e w10 ⟨rfl, hE10⟩; have hY10 := hY9.trans hE10; have lq8 := l8 _ hY10) | (refine wpList_load_by rfl rfl ?_ lq8 ?_; (· rfl)) | (go_at_call 22; (with_reducible refine (hgc _).mono ?_); rintro e w11 ⟨rfl, hE11⟩))
      have hY11 := hY10.trans hE11
      refine wp_region_noPanic ?_
      refine tr_start (.y 0 (.y 2 (.e 1 (.y 3 (.y 4 .nil))))) (fun w' => Ext W1 w') (by kernel_rfl) (by as_aux_lemma => kernel_rfl) (fun _ _ _ _ _ h => h) (by (repeat (first | assumption | exact Ext.refl _ | refine Ext.drew ?_ | refine Ext.alloc ?_ _ | refine Ext.drewN ?_ _ | refine Ext.trans ?_ (by assumption)))) ?_
      have ez0 : Ext w11 w11.drew := (Ext.refl _).drew
      generalize w11.drew = qz0 at ez0 ⊢
      have hYz0 := hY11.trans ez0
      refine tr_y (v := ?_) (a' := ?_) rfl rfl (by rfl) (fun w' hw' => ?_) ?_ ?_
      rotate_left 2
      · (refine (run_op_load rfl ?_ (l0 w' hw')).trans ?_; (· rfl); (· with_reducible rfl))
      · simp only [Act.put, zzA, zz0, zzS]; rfl
      (first | (refine tr_off (a' := ?_) rfl rfl (by rfl) ?_ ?_; rotate_left 1; (· simp only [Act.put, zzA, zz0, zzS]; rfl)) | (refine tr_y (v := ?_) (a' := ?_) rfl rfl (by rfl) (fun w' hw' => ?_) ?_ ?_; rotate_left 2; (· go_simp; with_reducible rfl); (· simp only [Act.put, zzA, zz0, zzS]; rfl)))
      refine tr_call (args := ?_) rfl Tryd.func23 (by kernel_rfl) rfl (by rfl) rfl rfl ?_ ?_
      rotate_left 1
      · go_simp; rfl
      (with_reducible refine (hgiv _ hYz0).mono ?_)
      rintro e qz1 ⟨rfl, ez1⟩
      have hYz1 := hYz0.trans ez1
      refine ⟨_, _, rfl, hYz1, (by simp only [Act.put, zzA, zz0, zzS]; rfl), ?_⟩
      (first | (refine tr_off (a' := ?_) rfl rfl (by rfl) ?_ ?_; rotate_left 1; (· simp only [Act.put, zzA, zz0, zzS]; rfl)) | (refine tr_y (v := ?_) (a' := ?_) rfl rfl (by rfl) (fun w' hw' => ?_) ?_ ?_; rotate_left 2; (· go_simp; with_reducible rfl); (· simp only [Act.put, zzA, zz0, zzS]; rfl)))
      (first | (refine tr_off (a' := ?_) rfl rfl (by rfl) ?_ ?_; rotate_left 1; (· simp only [Act.put, zzA, zz0, zzS]; rfl)) | (refine tr_y (v := ?_) (a' := ?_) rfl rfl (by rfl) (fun w' hw' => ?_) ?_ ?_; rotate_left 2; (· go_simp; with_reducible rfl); (· simp only [Act.put, zzA, zz0, zzS]; rfl)))
      refine tr_end ?_
      refine NoPanic.normal ?_
      cases fo
      · go_wp2_with fail
        go_ret
        exact ⟨ret_int (by rw [HC.out]; simp [*]), hYW.trans hYz1⟩
      · go_wp2_with fail
        go_ret
        exact ⟨ret_int (by rw [HC.out]; simp [*]), hYW.trans hYz1⟩
    · have hgz2 : (gv != 0) = true := by simpa using hgz
      go_wp2_with (first | (go_at_call 16; (with_reducible refine (h6' _ hY9).mono ?_); rintro e w10 ⟨rfl, hE10⟩; have hY10 := hY9.trans hE10; have lq8 := l8 _ hY10) | (refine wpList_load_by rfl rfl ?_ lq8 ?_; (· rfl)) | (go_at_call 22; (with_reducible refine (hgc _).mono ?_); rintro e w11 ⟨rfl, hE11⟩))
      have hY11 := hY10.trans hE11
      go_ret
      exact ⟨ret_int (by rw [HC.out]; simp [*]), hYW.trans hY11⟩
  by_cases hm0 : m = 0
  · go_wp2_with (go_at_call 16; (with_reducible refine (h3 _ hYd2).mono ?_); rintro e w7 ⟨rfl, hE7⟩; have a39 := hE7.cellk a39)
    have hY7 := hYd2.trans hE7
    go_ret
    exact ⟨ret_int (by rw [HC.out]; simp [*]), hYW.trans hY7⟩
  · go_upto_region 14 with (go_at_call 16; (with_reducible refine (h3 _ hYd2).mono ?_); rintro e w7 ⟨rfl, hE7⟩; have a39 := hE7.cellk a39)
    have hY7 := hYd2.trans hE7
    have a39 := xr39 _ hY7
    have a3 := xr3 _ hY7
    by_cases h4 : 4 < m
    · go_wp2_with fail
      go_ret
      exact ⟨ret_int (by rw [HC.out]; simp [*]), hYW.trans hY7⟩
    by_cases h6 : 6 < p
    · go_wp2_with fail
      go_ret
      exact ⟨ret_int (by rw [HC.out]; simp [*]), hYW.trans hY7⟩
    have lq1 := l1 _ hY7
    cases b1
    rotate_left 1
    · go_wp2_with (first | (go_at_call 20; (with_reducible refine (hlB _ hY7).mono ?_); rintro e w8 ⟨rfl, hE8⟩))
      have hY8 := Ext.trans hY7 hE8
      go_ret
      exact ⟨ret_int (by rw [HC.out]; simp [*]), hYW.trans hY8⟩
    cases b2
    rotate_left 1
    · go_wp2_with (first | (go_at_call 20; (with_reducible refine (hlB _ hY7).mono ?_); rintro e w8 ⟨rfl, hE8⟩; have hY8 := Ext.trans hY7 hE8; have lq2 := l1 _ hY8) | (refine wpList_load_w (by rfl) rfl ?_ lq2 ?_; (· rfl)) | (go_at_call 21; (with_reducible refine (hlT _ hY8).mono ?_); rintro e w9 ⟨rfl, hE9⟩))
      have hY9 := hY8.trans hE9
      go_ret
      exact ⟨ret_int (by rw [HC.out]; simp [*]), hYW.trans hY9⟩
    go_upto_region 18 with (first | (go_at_call 20; (with_reducible refine (hlB _ hY7).mono ?_); rintro e w8 ⟨rfl, hE8⟩; have hY8 := Ext.trans hY7 hE8; have lq2 := l1 _ hY8) | (refine wpList_load_w (by rfl) rfl ?_ lq2 ?_; (· rfl)) | (go_at_call 21; (with_reducible refine (hlT _ hY8).mono ?_); rintro e w9 ⟨rfl, hE9⟩))
    have hY9 := hY8.trans hE9
    cases f6
    · go_upto_region 22 with (go_at_call 16; (with_reducible refine (h6' _ hY9).mono ?_); rintro e w10 ⟨rfl, hE10⟩)
      have hY10 := hY9.trans hE10
      refine wp_region_noPanic ?_
      refine tr_start (.y 0 (.y 2 (.e 1 (.y 3 (.y 4 .nil))))) (fun w' => Ext W1 w') (by kernel_rfl) (by as_aux_lemma => kernel_rfl) (fun _ _ _ _ _ h => h) (by (repeat (first | assumption | exact Ext.refl _ | refine Ext.drew ?_ | refine Ext.alloc ?_ _ | refine Ext.drewN ?_ _ | refine Ext.trans ?_ (by assumption)))) ?_
      have ez0 : Ext w10 w10.drew := (Ext.refl _).drew
      generalize w10.drew = qz0 at ez0 ⊢
      have hYz0 := hY10.trans ez0
      refine tr_y (v := ?_) (a' := ?_) rfl rfl (by rfl) (fun w' hw' => ?_) ?_ ?_
      rotate_left 2
      · (refine (run_op_load rfl ?_ (l0 w' hw')).trans ?_; (· rfl); (· with_reducible rfl))
      · simp only [Act.put, zzA, zz0, zzS]; rfl
      (first | (refine tr_off (a' := ?_) rfl rfl (by rfl) ?_ ?_; rotate_left 1; (· simp only [Act.put, zzA, zz0, zzS]; rfl)) | (refine tr_y (v := ?_) (a' := ?_) rfl rfl (by rfl) (fun w' hw' => ?_) ?_ ?_; rotate_left 2; (· go_simp; with_reducible rfl); (· simp only [Act.put, zzA, zz0, zzS]; rfl)))
      refine tr_call (args := ?_) rfl Tryd.func23 (by kernel_rfl) rfl (by rfl) rfl rfl ?_ ?_
      rotate_left 1
      · go_simp; rfl
      (with_reducible refine (hgiv _ hYz0).mono ?_)
      rintro e qz1 ⟨rfl, ez1⟩
      have hYz1 := hYz0.trans ez1
      refine ⟨_, _, rfl, hYz1, (by simp only [Act.put, zzA, zz0, zzS]; rfl), ?_⟩
      (first | (refine tr_off (a' := ?_) rfl rfl (by rfl) ?_ ?_; rotate_left 1; (· simp only [Act.put, zzA, zz0, zzS]; rfl)) | (refine tr_y (v := ?_) (a' := ?_) rfl rfl (by rfl) (fun w' hw' => ?_) ?_ ?_; rotate_left 2; (· go_simp; with_reducible rfl); (· simp only [Act.put, zzA, zz0, zzS]; rfl)))
      (first | (refine tr_off (a' := ?_) rfl rfl (by rfl) ?_ ?_; rotate_left 1; (· simp only [Act.put, zzA, zz0, zzS]; rfl)) | (refine tr_y (v := ?_) (a' := ?_) rfl rfl (by rfl) (fun w' hw' => ?_) ?_ ?_; rotate_left 2; (· go_simp; with_reducible rfl); (· simp only [Act.put, zzA, zz0, zzS]; rfl)))
      refine tr_end ?_
      refine NoPanic.normal ?_
      cases fo
      · go_wp2_with fail
        go_ret
        exact ⟨ret_int (by rw [HC.out]; simp [*]), hYW.trans hYz1⟩
      · go_wp2_with fail
        go_ret
        exact ⟨ret_int (by rw [HC.out]; simp [*]), hYW.trans hYz1⟩
    by_cases hgz : gv = 0
    · go_upto_region 22 with (first | (go_at_call 16; (with_reducible refine (h6' _ hY9).mono ?_); rintro e w10 ⟨rfl, hE10⟩; have hY10 := hY9.trans hE10; have lq8 := l8 _ hY10) | (refine wpList_load_by rfl rfl ?_ lq8 ?_; (· rfl)) | (go_at_call 22; (with_reducible refine (hgc _).mono ?_); rintro e w11 ⟨rfl, hE11⟩))
      have hY11 := hY10.trans hE11
      refine wp_region_noPanic ?_
      refine tr_start (.y 0 (.y 2 (.e 1 (.y 3 (.y 4 .nil))))) (fun w' => Ext W1 w') (by kernel_rfl) (by as_aux_lemma => kernel_rfl) (fun _ _ _ _ _ h => h) (by (repeat (first | assumption | exact Ext.refl _ | refine Ext.drew ?_ | refine Ext.alloc ?_ _ | refine Ext.drewN ?_ _ | refine Ext.trans ?_ (by assumption)))) ?_
      have ez0 : Ext w11 w11.drew := (Ext.refl _).drew
      generalize w11.drew = qz0 at ez0 ⊢
      have hYz0 := hY11.trans ez0
      refine tr_y (v := ?_) (a' := ?_) rfl rfl (by rfl) (fun w' hw' => ?_) ?_ ?_
      rotate_left 2
      · (refine (run_op_load rfl ?_ (l0 w' hw')).trans ?_; (· rfl); (· with_reducible rfl))
      · simp only [Act.put, zzA, zz0, zzS]; rfl
      (first | (refine tr_off (a' := ?_) rfl rfl (by rfl) ?_ ?_; rotate_left 1; (· simp only [Act.put, zzA, zz0, zzS]; rfl)) | (refine tr_y (v := ?_) (a' := ?_) rfl rfl (by rfl) (fun w' hw' => ?_) ?_ ?_; rotate_left 2; (· go_simp; with_reducible rfl); (· simp only [Act.put, zzA, zz0, zzS]; rfl)))
      refine tr_call (args := ?_) rfl Tryd.func23 (by kernel_rfl) rfl (by rfl) rfl rfl ?_ ?_
      rotate_left 1
      · go_simp; rfl
      (with_reducible refine (hgiv _ hYz0).mono ?_)
      rintro e qz1 ⟨rfl, ez1⟩
      have hYz1 := hYz0.trans ez1
      refine ⟨_, _, rfl, hYz1, (by simp only [Act.put, zzA, zz0, zzS]; rfl), ?_⟩
      (first | (refine tr_off (a' := ?_) rfl rfl (by rfl) ?_ ?_; rotate_left 1; (· simp only [Act.put, zzA, zz0, zzS]; rfl)) | (refine tr_y (v := ?_) (a' := ?_) rfl rfl (by rfl) (fun w' hw' => ?_) ?_ ?_; rotate_left 2; (· go_simp; with_reducible rfl); (· simp only [Act.put, zzA, zz0, zzS]; rfl)))
      (first | (refine tr_off (a' := ?_) rfl rfl (by rfl) ?_ ?_; rotate_left 1; (· simp only [Act.put, zzA, zz0, zzS]; rfl)) | (refine tr_y (v := ?_) (a' := ?_) rfl rfl (by rfl) (fun w' hw' => ?_) ?_ ?_; rotate_left 2; (· go_simp; with_reducible rfl); (· simp only [Act.put, zzA, zz0, zzS]; rfl)))
      refine tr_end ?_
      refine NoPanic.normal ?_
      cases fo
      · go_wp2_with fail
        go_ret
        exact ⟨ret_int (by rw [HC.out]; simp [*]), hYW.trans hYz1⟩
      · go_wp2_with fail
        go_ret
        exact ⟨ret_int (by rw [HC.out]; simp [*]), hYW.trans hYz1⟩
    · have hgz2 : (gv != 0) = true := by simpa using hgz
      go_wp2_with (first | (go_at_call 16; (with_reducible refine (h6' _ hY9).mono ?_); rintro e w10 ⟨rfl, hE10⟩; have hY10 := hY9.trans hE10; have lq8 := l8 _ hY10) | (refine wpList_load_by rfl rfl ?_ lq8 ?_; (· rfl)) | (go_at_call 22; (with_reducible refine (hgc _).mono ?_); rintro e w11 ⟨rfl, hE11⟩))
      have hY11 := hY10.trans hE11
      go_ret
      exact ⟨ret_int (by rw [HC.out]; simp [*]), hYW.trans hY11⟩
end Go.Proofs.YtgfhbachgniipaaDoor

namespace Go.Proofs.YtgfhbachgniipaaDoor
open Go.RowKit
theorem below_grown {B base : Nat} {a wr w' : World} {e : TypeId} {size : Nat} {v : Value} {n : Nat} {xs : List Value} (h : Below B a wr) (hB : B ≤ wr.heap.size) (hown : wr.ownsRow base e size v n xs) (hg : wr.grownBy w' v.ownBlock) (hb : B ≤ base) : Below B a w' :=
  Below.grown h hg hB fun k hk => Nat.le_trans hb (hown.lt k hk).1
theorem own_exc {w w' : World} {base lo hi : Nat} {e : TypeId} {size : Nat} {v : Value} {n : Nat} {xs : List Value} (h : w.ownsRow base e size v n xs) (hX : Exc lo hi w w') (hb : hi ≤ base) : w'.ownsRow base e size v n xs := by
  obtain ⟨hl, h⟩ := h
  refine ⟨hl, h.imp id ?_⟩
  rintro ⟨g, cap, cur, h1, h2, h3, h4⟩
  exact ⟨g, cap, cur, h1, h2, (hX.block g (Array.getElem?_eq_some_iff.1 h3).1 (.inr (by omega))).trans h3, h4⟩
theorem own_val {w : World} {base : Nat} {e : TypeId} {size : Nat} {v : Value} {n : Nat} {xs : List Value} (h : w.ownsRow base e size v n xs) : ∃ A c, v = .slice A n c := by
  obtain ⟨_, ⟨rfl, rfl⟩ | ⟨g, cap, cur, rfl, _⟩⟩ := h
  · exact ⟨_, _, rfl⟩
  · exact ⟨_, _, rfl⟩
theorem own_set {w : World} {base : Nat} {e : TypeId} {size : Nat} {v : Value} {n : Nat} {xs : List Value} (h : w.ownsRow base e size v n xs) {p : Addr} (hp : p.block < base) (u : Value) : (w.setCell p u).ownsRow base e size v n xs :=
  own_exc h (Exc.setCell (lo := p.block) (Nat.le_refl _) (Nat.lt_succ_self _) u) hp
structure TSt (w0 w : World) (lo g h q : Nat) (s : St) (cs : Array Value) : Prop where
  rd : RdrS w lo g s
  rs : Blk w h 27 #[.string ⟨#[]⟩, .int .i64 0, .slice none 0 0, .int .u8 0, .int .u8 0, .int .u8 0, .int .u8 0, .int .u8 0, .int .u8 0, .int .u8 0, .int .u8 0, .int .u8 0, .int .u8 0, .int .u8 0, .int .u8 0, .int .u8 0, .int .u8 0, .int .u8 0, .int .u8 0, .int .u8 0, .int .u8 0, .int .u8 0, .int .u8 0, .int .u8 0, .int .u8 0, .int .u8 0, .int .u8 0, .int .u8 0, .int .u8 0, .int .u8 0, .int .u8 0, .int .u8 0, .int .u8 0, .int .u8 0, .int .u8 0]
  tk : Blk w q 27 cs
  lt : g < w0.heap.size
  h0 : w0.heap.size ≤ h
  hq : h < q
  ex : Exc g (g + 1) w0 w
section
variable {w0 w w' : World} {lo g h q : Nat} {s s' : St} {cs : Array Value}
theorem TSt.exc (k : TSt w0 w lo g h q s cs) (hR : RdrS w' lo g s') (hX : Exc g (g + 1) w w') : TSt w0 w' lo g h q s' cs := by
  have h1 := k.lt
  have h2 := k.h0
  have h3 := k.hq
  exact ⟨hR, hX.blk k.rs (.inr (by omega)), hX.blk k.tk (.inr (by omega)), k.lt, k.h0, k.hq, k.ex.trans hX⟩
theorem TSt.put (k : TSt w0 w lo g h q s cs) (i : Nat) (v : Value) : TSt w0 (w.setCell ⟨q, i, none⟩ v) lo g h q s (cs.setIfInBounds i v) := by
  have h1 := k.lt
  have h2 := k.h0
  have h3 := k.hq
  have hX : Exc q (q + 1) w (w.setCell ⟨q, i, none⟩ v) := Exc.setCell (p := ⟨q, i, none⟩) (Nat.le_refl _) (Nat.lt_succ_self _) v
  exact ⟨RdrAt.exc k.rd hX (.inl (by omega)), hX.blk k.rs (.inl h3), k.tk.set_ i v, k.lt, k.h0, k.hq, k.ex.above hX (by omega)⟩
theorem TSt.store (k : TSt w0 w lo g h q s cs) {cs' : Array Value} (hX : Exc q (q + 1) w w') (hB : Blk w' q 27 cs') : TSt w0 w' lo g h q s cs' := by
  have h1 := k.lt
  have h2 := k.h0
  have h3 := k.hq
  exact ⟨RdrAt.exc k.rd hX (.inl (by omega)), hX.blk k.rs (.inl h3), hB, k.lt, k.h0, k.hq, k.ex.above hX (by omega)⟩
theorem TSt.up (k : TSt w0 w lo g h q s cs) (hb : Below (q + 1) w w') : TSt w0 w' lo g h q s cs := by
  have h1 := k.lt
  have h2 := k.h0
  have h3 := k.hq
  have hX : Exc (q + 1) (w'.heap.size + q + 1) w w' := ⟨hb.os, hb.tape, hb.output, hb.size, fun i hi hd => hb.block i (by have := hb.size; omega)⟩
  exact ⟨k.rd.below hb (by omega), (hb.block h (by omega)).trans k.rs, (hb.block q (by omega)).trans k.tk, k.lt, k.h0, k.hq, k.ex.above hX (by omega)⟩
theorem TSt.size (k : TSt w0 w lo g h q s cs) : q + 1 ≤ w.heap.size := k.tk.lt
end
structure TokBd (t : Tok) : Prop where
  ten : t.ten.size ≤ 24
  id : intOk t.id
  n : t.gs.length ≤ 6
  g : ∀ x ∈ t.gs, x.p.size ≤ 24 ∧ intOk x.r ∧ intOk x.u
  mac : t.mac.length = 32
theorem zTok_bd : TokBd zTok := ⟨by decide, by unfold intOk zTok; decide, by decide, (fun x hx => by simp [zTok] at hx), rfl⟩
def TokRdP (lo g : Nat) (w : World) (s : St) (R : World → Nat → Nat → St → Prop) (e : Ending) (w' : World) : Prop := ∃ t s' a, tokS s = (t, s') ∧ TokBd t ∧ e = .returned (.agg (tokA t a)) ∧ GsV (only w' w.heap.size w'.heap.size) t.gs a ∧ R w' lo g s' ∧ Exc g (g + 1) w w'
def isOne (n : Nat) : Bool := ((n : Int) == 1)
theorem gr_step {s0 s1 s2 s3 s4 : St} {x : Int} {p : ByteArray} {n : Nat} {u : Int} (h1 : intS s0 = (x, s1)) (h2 : textS 24 s1 = (p, s2)) (h3 : countS 1 s2 = ((n : Int), s3)) (h4 : intS s3 = (u, s4)) : grS s0 = (⟨x, p, isOne n, u⟩, s4) := by
  unfold grS pairS boolS
  simp only [h1, h2, h3, h4]
  rfl
set_option maxHeartbeats 9000000 in
set_option maxRecDepth 100000 in
theorem tread_any {w : World} {lo g : Nat} {s : St} (hR : RdrS w lo g s) : Calls Tryd.prog 39 #[.pointer (some ⟨g, 0, none⟩)] w (TokRdP lo g w s RdrS) := by
  obtain ⟨W, hW, hE, -⟩ := box1 w #[.string ⟨#[]⟩, .int .i64 0, .slice none 0 0, .int .u8 0, .int .u8 0, .int .u8 0, .int .u8 0, .int .u8 0, .int .u8 0, .int .u8 0, .int .u8 0, .int .u8 0, .int .u8 0, .int .u8 0, .int .u8 0, .int .u8 0, .int .u8 0, .int .u8 0, .int .u8 0, .int .u8 0, .int .u8 0, .int .u8 0, .int .u8 0, .int .u8 0, .int .u8 0, .int .u8 0, .int .u8 0, .int .u8 0, .int .u8 0, .int .u8 0, .int .u8 0, .int .u8 0, .int .u8 0, .int .u8 0, .int .u8 0] 27
  have B : Blk W w.heap.size 27 #[.string ⟨#[]⟩, .int .i64 0, .slice none 0 0, .int .u8 0, .int .u8 0, .int .u8 0, .int .u8 0, .int .u8 0, .int .u8 0, .int .u8 0, .int .u8 0, .int .u8 0, .int .u8 0, .int .u8 0, .int .u8 0, .int .u8 0, .int .u8 0, .int .u8 0, .int .u8 0, .int .u8 0, .int .u8 0, .int .u8 0, .int .u8 0, .int .u8 0, .int .u8 0, .int .u8 0, .int .u8 0, .int .u8 0, .int .u8 0, .int .u8 0, .int .u8 0, .int .u8 0, .int .u8 0, .int .u8 0, .int .u8 0] := by rw [hW]; exact Blk.new _ _ _
  have hg := hR.lt
  have hRW : RdrS W lo g s := RdrAt.ext hR hE
  have hWs : W.heap.size = w.heap.size + 1 := by rw [hW]; simp
  obtain ⟨P, hP⟩ : ∃ P, TokRdP lo g w s RdrS = P := ⟨_, rfl⟩
  rw [hP]
  have HP := Lib.hid hP
  clear hP hR
  go_enter Tryd.func39, Tryd.ntmps39
  go_upto_region 1 with fail
  rw [← hW]
  have HW := Lib.hid hWs
  clear hW hWs
  have ht0 := text_S hRW 24 (by decide)
  rw [show ((24 : Nat) : Int) = 24 from rfl] at ht0
  refine wp_region_lit ?_
  (first | (refine pl_off (a' := ?_) rfl (by rfl) ?_ ?_; rotate_left 1; (· simp only [Act.put, zzA, zz0, zzS]; rfl)) | (refine pl_y (v := ?_) (a' := ?_) rfl (by rfl) ?_ ?_ ?_; rotate_left 2; (· go_simp; with_reducible rfl); (· simp only [Act.put, zzA, zz0, zzS]; rfl)))
  refine pl_call (args := ?_) Tryd.func67 (by kernel_rfl) rfl (by rfl) rfl rfl ?_ ?_
  rotate_left 1
  · go_simp; with_reducible rfl
  (with_reducible refine (ht0).mono ?_)
  rintro e w1 ⟨x0, s0, hp0, hz0, rfl, hR1, hX1⟩
  refine ⟨_, _, rfl, (by simp only [Act.put, zzA, zz0, zzS]; rfl), ?_⟩
  have HP0 := Lib.hid hp0
  (first | (refine pl_off (a' := ?_) rfl (by rfl) ?_ ?_; rotate_left 1; (· simp only [Act.put, zzA, zz0, zzS]; rfl)) | (refine pl_y (v := ?_) (a' := ?_) rfl (by rfl) ?_ ?_ ?_; rotate_left 2; (· go_simp; with_reducible rfl); (· simp only [Act.put, zzA, zz0, zzS]; rfl)))
  refine pl_call (args := ?_) Tryd.func38 (by kernel_rfl) rfl (by rfl) rfl rfl ?_ ?_
  rotate_left 1
  · go_simp; with_reducible rfl
  (with_reducible refine (int_S hR1).mono ?_)
  rintro e w2 ⟨x1, s1, hp1, hz1, rfl, hR2, hX2⟩
  refine ⟨_, _, rfl, (by simp only [Act.put, zzA, zz0, zzS]; rfl), ?_⟩
  have HP1 := Lib.hid hp1
  (first | (refine pl_off (a' := ?_) rfl (by rfl) ?_ ?_; rotate_left 1; (· simp only [Act.put, zzA, zz0, zzS]; rfl)) | (refine pl_y (v := ?_) (a' := ?_) rfl (by rfl) ?_ ?_ ?_; rotate_left 2; (· go_simp; with_reducible rfl); (· simp only [Act.put, zzA, zz0, zzS]; rfl)))
  refine pl_v (v := ?_) (w1 := ?_) (a' := ?_) rfl (by rfl) ?_ ?_ ?_
  rotate_left 3
  · go_simp; refine ⟨?_, ?_⟩ <;> with_reducible rfl
  · simp only [Act.put, zzA, zz0, zzS]; rfl
  obtain ⟨V, hV, hEV, -⟩ := box1 w2 #[.string ⟨#[]⟩, .int .i64 0, .slice none 0 0, .int .u8 0, .int .u8 0, .int .u8 0, .int .u8 0, .int .u8 0, .int .u8 0, .int .u8 0, .int .u8 0, .int .u8 0, .int .u8 0, .int .u8 0, .int .u8 0, .int .u8 0, .int .u8 0, .int .u8 0, .int .u8 0, .int .u8 0, .int .u8 0, .int .u8 0, .int .u8 0, .int .u8 0, .int .u8 0, .int .u8 0, .int .u8 0, .int .u8 0, .int .u8 0, .int .u8 0, .int .u8 0, .int .u8 0, .int .u8 0, .int .u8 0, .int .u8 0] 27
  have BV : Blk V w2.heap.size 27 #[.string ⟨#[]⟩, .int .i64 0, .slice none 0 0, .int .u8 0, .int .u8 0, .int .u8 0, .int .u8 0, .int .u8 0, .int .u8 0, .int .u8 0, .int .u8 0, .int .u8 0, .int .u8 0, .int .u8 0, .int .u8 0, .int .u8 0, .int .u8 0, .int .u8 0, .int .u8 0, .int .u8 0, .int .u8 0, .int .u8 0, .int .u8 0, .int .u8 0, .int .u8 0, .int .u8 0, .int .u8 0, .int .u8 0, .int .u8 0, .int .u8 0, .int .u8 0, .int .u8 0, .int .u8 0, .int .u8 0, .int .u8 0] := by rw [hV]; exact Blk.new _ _ _
  rw [← hV]
  have hX12 := (Ext.exc hE).trans (hX1.trans hX2)
  have hw2 : W.heap.size ≤ w2.heap.size := (hX1.trans hX2).size
  rw [HW.out] at hw2
  obtain ⟨V2, hr, BV2, hXV⟩ := store_part BV 0 (tokA ⟨x0, x1, [], zMac⟩ (.slice none 0 0)) [] [.string ⟨#[]⟩, .int .i64 0, .slice none 0 0, .int .u8 0, .int .u8 0, .int .u8 0, .int .u8 0, .int .u8 0, .int .u8 0, .int .u8 0, .int .u8 0, .int .u8 0, .int .u8 0, .int .u8 0, .int .u8 0, .int .u8 0, .int .u8 0, .int .u8 0, .int .u8 0, .int .u8 0, .int .u8 0, .int .u8 0, .int .u8 0, .int .u8 0, .int .u8 0, .int .u8 0, .int .u8 0, .int .u8 0, .int .u8 0, .int .u8 0, .int .u8 0, .int .u8 0, .int .u8 0, .int .u8 0, .int .u8 0] [] rfl rfl rfl 27 (by kernel_rfl) (one_tok _ _ rfl)
  have BV2 : Blk V2 w2.heap.size 27 (tokA ⟨x0, x1, [], zMac⟩ (.slice none 0 0)) := by simpa using BV2
  have hT0 : TSt w V2 lo g w.heap.size w2.heap.size s1 (tokA ⟨x0, x1, [], zMac⟩ (.slice none 0 0)) :=
    ⟨RdrAt.exc (RdrAt.ext hR2 hEV) hXV (.inl (by have := hR2.lt; omega)), hXV.blk ((((hX1.trans hX2).blk B (.inr hg))).ext hEV) (.inl (by omega)), BV2, hg, Nat.le_refl _, by omega, (hX12.trans (Ext.exc hEV)).above hXV (by omega)⟩
  refine pl_store (by rfl) rfl (run_op_store rfl ?_ ?_ hr) ?_
  · rfl
  · rfl
  clear hV hEV BV hX12 BV2 hXV hr hp0 hp1 ht0 hR1 hR2 hX1 hX2 hRW B hE
  generalize w2.heap.size = q at *
  refine wpList_nil ?_
  have hct := count_S hT0.rd 6
  rw [show ((6 : Nat) : Int) = 6 from rfl] at hct
  go_wp2_with (go_at_call 44; (with_reducible refine hct.mono ?_); rintro e w3 ⟨m, s3, hp3, hm, rfl, hR3, hX3⟩; have HP3 := Lib.hid hp3; clear hp3)
  have hT1 := hT0.exc hR3 hX3
  clear hct hT0 hR3 hX3
  go_loopw [12] (fun i wr => ∃ (k : Nat) (v : Value) (rows : List Grant) (sk : St), k ≤ m ∧ i = .int .i64 k ∧ Hid (manyS grS k s3 = (rows, sk)) ∧ TSt w wr lo g w.heap.size q sk (tokA ⟨x0, x1, [], zMac⟩ v) ∧ wr.ownsRow (q + 1) 30 4 v k (rows.flatMap fun x => (grA x).toList) ∧ Hid (rows.length = k) ∧ (∀ x ∈ rows, x.p.size ≤ 24 ∧ intOk x.r ∧ intOk x.u)) (fun i _ => m - (intOf i).toNat)
  case atStart => exact ⟨0, _, [], s3, by omega, rfl, Lib.hid rfl, hT1, World.ownsRow_nil _ _ _ _, Lib.hid rfl, (fun x hx => by cases hx)⟩
  case round =>
    clear hT1
    obtain ⟨k, v, rows, sk, hkm, rfl, HB, hT, hown, HL, hel⟩ := hrel
    by_cases hlt : k < m
    · have hi := int_S hT.rd
      go_upto_region 5 with (first | (go_at_call 38; (with_reducible refine hi.mono ?_); rintro e w4 ⟨gx, s4, hp4, hz4, rfl, hR4, hX4⟩; have ht5 := text_S hR4 24 (by decide); rw [show ((24 : Nat) : Int) = 24 from rfl] at ht5; have HP4 := Lib.hid hp4; clear hp4 hi) | (go_at_call 67; (with_reducible refine ht5.mono ?_); rintro e w5 ⟨gp, s5, hp5, hz5, rfl, hR5, hX5⟩; have hc6 := count_S hR5 1; rw [show ((1 : Nat) : Int) = 1 from rfl] at hc6; have HP5 := Lib.hid hp5; clear hp5 ht5) | (go_at_call 44; (with_reducible refine hc6.mono ?_); rintro e w6 ⟨gn, s6, hp6, hz6, rfl, hR6, hX6⟩; have HP6 := Lib.hid hp6; clear hp6 hc6))
      have hT6 := ((hT.exc hR4 hX4).exc hR5 hX5).exc hR6 hX6
      have hXa := hX4.trans (hX5.trans hX6)
      have hq6 : q + 1 ≤ w6.heap.size := hT6.size
      have hb7 : Below (q + 1) w6 (w6.alloc (.cells #[.int .i64 gx, .string gp, .bool ((gn : Int) == 1), .int .i64 0] 30)) := (Below.refl _ _).alloc hq6 _
      have hT7 := hT6.up hb7
      have B7 := Blk.new w6 30 #[.int .i64 gx, .string gp, .bool ((gn : Int) == 1), .int .i64 0]
      have hXb : Exc g (g + 1) wr (w6.alloc (.cells #[.int .i64 gx, .string gp, .bool ((gn : Int) == 1), .int .i64 0] 30)) := hXa.trans (Ext.exc ((Ext.refl _).alloc _))
      have hwr6 : wr.heap.size ≤ w6.heap.size := hXa.size
      clear hT hR4 hX4 hR5 hX5 hR6 hX6 hb7 hT6 hXa
      generalize w6.alloc (.cells #[.int .i64 gx, .string gp, .bool ((gn : Int) == 1), .int .i64 0] 30) = w7 at *
      generalize w6.heap.size = p6 at *
      have hi := int_S hT7.rd
      have hgq : g < p6 := by have := hT7.lt; have := hT7.h0; have := hT7.hq; omega
      go_upto_region 6 with (go_at_call 38; (with_reducible refine hi.mono ?_); rintro e w8 ⟨gu, s7, hp7, hz7, rfl, hR8, hX8⟩; have HP7 := Lib.hid hp7; clear hp7 hi; have B8 := hX8.blk B7 (.inr hgq); have bc := B8.cell 3 (v := .int .i64 0) rfl; have bf := B8.frozen 3)
      have hT8 := hT7.exc hR8 hX8
      have hB9 : Below (q + 1) w8 (w8.setCell ⟨p6, 3, none⟩ (.int .i64 gu)) := Below.setCell (p := ⟨p6, 3, none⟩) (Below.refl _ _) (by show q + 1 ≤ p6; omega) _
      have hT9 := hT8.up hB9
      have B9 := B8.set_ 3 (.int .i64 gu)
      have hXc : Exc g (g + 1) wr (w8.setCell ⟨p6, 3, none⟩ (.int .i64 gu)) := (hXb.trans hX8).above (Exc.setCell (lo := p6) (hi := p6 + 1) (p := ⟨p6, 3, none⟩) (Nat.le_refl _) (Nat.lt_succ_self _) _) hwr6
      generalize w8.setCell ⟨p6, 3, none⟩ (.int .i64 gu) = w9 at *
      have B9 : Blk w9 p6 30 (grA ⟨gx, gp, isOne gn, gu⟩) := B9
      have hown9 := own_exc hown hXc (by have := hT9.lt; have := hT9.h0; have := hT9.hq; omega)
      have hl := load_whole B9 30 _ Tryd.underlying30 rfl (by kernel_rfl)
      have c2 := hT9.tk.cell 2 (v := v) rfl
      have hstep := gr_step HP4.out HP5.out HP6.out HP7.out
      obtain ⟨x, hx⟩ : ∃ x : Grant, x = ⟨gx, gp, isOne gn, gu⟩ := ⟨_, rfl⟩
      rw [← hx] at hl hstep
      have hxb : x.p.size ≤ 24 ∧ intOk x.r ∧ intOk x.u := by rw [hx]; exact ⟨hz5, hz4, hz7⟩
      have HST := Lib.hid hstep
      have hfo := fold_all (Z := Value.cells (.agg #[.int .i64 0, .string ⟨#[]⟩, .bool false, .int .i64 0])) (C := grA x) (n := 4) (by decide) rfl rfl
      simp only [Value.cells] at hfo
      have h1 := one_gr x
      have hsz : (grA x).size = 4 := rfl
      have hq9 : q + 1 ≤ w9.heap.size := hT9.size
      generalize hCC : grA x = C at hl hfo h1 hsz
      have HCC := Lib.hid hCC
      clear hT7 hT8 B7 B8 B9 hXb hXc hown hX8 hR8 bc bf hB9 hx hstep hCC
      go_wp2_with (first | (refine wpList_load_by rfl rfl ?_ hl ?_; (· rfl)) | (at_builtin; refine wpList_append_cells (news := C.toList) rfl elt_Grants (.tmp 26) (.tmp 28) rfl (hown9.alloc _) rfl rfl ?c0 ?c1 ?c2 ?c3 ?c4 ?_))
      case c0 => exact ⟨by simp [hsz], (fun h => by cases h), fun ad h j u hu => (by cases h; exact new_cells w9 _ C j u hu)⟩
      case c1 => exact h1
      case c2 => unfold maxLen; omega
      case c3 => omega
      case c4 => simp; omega
      intro v' w10 hown' hgrow
      have hb10 : Below (q + 1) w9 (w9.alloc (.cells C 30)) := (Below.refl _ _).alloc hq9 _
      have hT10 := hT9.up (below_grown hb10 (by simp; omega) (hown9.alloc _) hgrow (Nat.le_refl _))
      obtain ⟨A7, c7, rfl⟩ := own_val hown'
      have d2 := hT10.tk.cell 2 (v := v) rfl
      have g2 := hT10.tk.frozen 2
      have hT11 := hT10.put 2 (.slice A7 (k + 1) c7)
      have hown11 := own_set hown' (p := ⟨q, 2, none⟩) (Nat.lt_succ_self q) (.slice A7 (k + 1) c7)
      clear hgrow hown' hown9 hT9 hl c2 h1 hfo hb10
      have hT11 : TSt w (w10.setCell ⟨q, 2, none⟩ (.slice A7 (k + 1) c7)) lo g w.heap.size q s7 (tokA ⟨x0, x1, [], zMac⟩ (.slice A7 (k + 1) c7)) := hT11
      go_wp2_with fail
      generalize w10.setCell ⟨q, 2, none⟩ (.slice A7 (k + 1) c7) = w11 at *
      have hrel : Hid (manyS grS (k + 1) s3 = (rows ++ [x], s7)) := Lib.hid (by rw [manyS, HB.out]; simp only [HST.out])
      have hrow : w11.ownsRow (q + 1) 30 4 (.slice A7 (k + 1) c7) (k + 1) ((rows ++ [x]).flatMap fun x => (grA x).toList) := by
        rw [List.flatMap_append]
        simpa [HCC.out] using hown11
      have hlen : Hid ((rows ++ [x]).length = k + 1) := Lib.hid (by rw [List.length_append, HL.out]; rfl)
      have hel2 : ∀ y ∈ rows ++ [x], y.p.size ≤ 24 ∧ intOk y.r ∧ intOk y.u := fun y hy => by
        rcases List.mem_append.1 hy with hy | hy
        · exact hel y hy
        · obtain rfl : y = x := by simpa using hy
          exact hxb
      clear hown11 hT10 hel hxb HB HL d2 g2
      go_roundw
      case rel => exact ⟨k + 1, _, rows ++ [x], s7, by omega, by go_num, hrel, hT11, hrow, hlen, hel2⟩
      case measure => simp [intOf]; omega
    · obtain rfl : k = m := by omega
      have hsm := sum_S hT.rd
      unfold SumP at hsm
      have hraw : ∀ x sF, sumS sk = (x, sF) → tokRawS s = (⟨x0, x1, rows, x⟩, sF) := fun x sF hx => by
        unfold tokRawS pairS listS
        simp only [HP0.out, HP1.out, HP3.out, Int.toNat_natCast, HB.out, hx]
      have HRAW := Lib.hid hraw
      clear hraw
      go_upto_region 8 with fail
      refine wp_region_lit ?_
      (first | (refine pl_off (a' := ?_) rfl (by rfl) ?_ ?_; rotate_left 1; (· simp only [Act.put, zzA, zz0, zzS]; rfl)) | (refine pl_y (v := ?_) (a' := ?_) rfl (by rfl) ?_ ?_ ?_; rotate_left 2; (· go_simp; with_reducible rfl); (· simp only [Act.put, zzA, zz0, zzS]; rfl)))
      refine pl_call (args := ?_) Tryd.func68 (by kernel_rfl) rfl (by rfl) rfl rfl ?_ ?_
      rotate_left 1
      · go_simp; with_reducible rfl
      (with_reducible refine (hsm).mono ?_)
      rintro e w12 ⟨x, sF, hxs, hx32, rfl, hR12, hX12⟩
      refine ⟨_, _, rfl, (by simp only [Act.put, zzA, zz0, zzS]; rfl), ?_⟩
      have hT12 := hT.exc hR12 hX12
      have hown12 := own_exc hown hX12 (by have := hT.lt; have := hT.h0; have := hT.hq; omega)
      obtain ⟨w13, hr13, B13, hX13⟩ := store_part hT12.tk 3 (macA x) [.string x0, .int .i64 x1, v] (macA zMac).toList [] rfl rfl rfl 25 (by kernel_rfl) (by simp [macA, mb, Value.oneCell'])
      have B13 : Blk w13 q 27 (tokA ⟨x0, x1, rows, x⟩ v) := B13
      have hT13 := hT12.store hX13 B13
      have hown13 := own_exc hown12 hX13 (Nat.le_refl _)
      have hraw := HRAW.out x sF hxs
      (first | (refine pl_off (a' := ?_) rfl (by rfl) ?_ ?_; rotate_left 1; (· simp only [Act.put, zzA, zz0, zzS]; rfl)) | (refine pl_y (v := ?_) (a' := ?_) rfl (by rfl) ?_ ?_ ?_; rotate_left 2; (· go_simp; with_reducible rfl); (· simp only [Act.put, zzA, zz0, zzS]; rfl)))
      refine pl_store (by rfl) rfl (run_op_store rfl ?_ ?_ hr13) ?_
      · rfl
      · rfl
      refine wpList_nil ?_
      have hbad := bad_any w13 lo g sF.1 sF.2 hT13.rd
      obtain ⟨t, ht⟩ : ∃ t : Tok, (⟨x0, x1, rows, x⟩ : Tok) = t := ⟨_, rfl⟩
      have htb : TokBd t := by rw [← ht]; exact ⟨hz0, hz1, by rw [HL.out]; omega, hel, hx32⟩
      have htg : t.gs = rows := by rw [← ht]
      rw [ht] at B13 hT13 hraw
      obtain ⟨A7, c7, hv7, h7c, -, h7S⟩ := own_onlyM (d := rdGr) (f := grA) (fun _ => rfl) (lo := q + 1) (hi := w13.heap.size) (l := rows) (fun x _ w => gr_K w x) (by rw [HL.out]; exact hown13) (Nat.le_refl _) (Nat.le_refl _)
      have HRW := Lib.hid hraw
      clear hown hown12 hown13 hT hT12 hR12 hX12 hX13 hr13 hsm hraw B13 hel
      by_cases hy : sF.2 = 0
      · have hy1 : (sF.2 != 0) = false := by simpa using hy
        rw [hy1] at hbad
        have hl := load_whole hT13.tk 27 _ Tryd.underlying27 rfl (by kernel_rfl)
        obtain ⟨w14, hr14, B14, hX14⟩ := store_part hT13.rs 0 (tokA t v) [] [.string ⟨#[]⟩, .int .i64 0, .slice none 0 0, .int .u8 0, .int .u8 0, .int .u8 0, .int .u8 0, .int .u8 0, .int .u8 0, .int .u8 0, .int .u8 0, .int .u8 0, .int .u8 0, .int .u8 0, .int .u8 0, .int .u8 0, .int .u8 0, .int .u8 0, .int .u8 0, .int .u8 0, .int .u8 0, .int .u8 0, .int .u8 0, .int .u8 0, .int .u8 0, .int .u8 0, .int .u8 0, .int .u8 0, .int .u8 0, .int .u8 0, .int .u8 0, .int .u8 0, .int .u8 0, .int .u8 0, .int .u8 0] [] rfl rfl rfl 27 (by kernel_rfl) (one_tok _ _ (by rw [hv7]; rfl))
        have B14 : Blk w14 w.heap.size 27 (tokA t v) := by simpa using B14
        go_wp2_with (first | (go_at_call 69; (with_reducible refine hbad.mono ?_); rintro e w9 ⟨rfl, rfl⟩) | (refine wpList_load_by rfl rfl ?_ hl ?_; (· rfl)) | (refine wpList_store_by rfl rfl ?_ ?_ hr14 ?_; (· rfl); (· rfl)))
        refine bodyPost_ret (v := .agg (tokA t v)) (results_cell_row (P := Tryd.prog) (fn := Tryd.f39) rfl _ w14 w.heap.size _ _ _ _ rfl B14 Tryd.underlying27 rfl (by kernel_rfl)) rfl ?_
        rw [← HP.out]
        refine ⟨t, sF, v, by unfold tokS badS; rw [HRW.out]; simp only [hy, if_true], htb, rfl, ?_, RdrAt.exc hT13.rd hX14 (.inl hg), hT13.ex.above hX14 (Nat.le_refl _)⟩
        refine ⟨A7, c7, by rw [htg]; exact hv7, by rw [htg]; exact h7c, ?_⟩
        rw [htg]
        have hq13 := hT13.hq
        have e : only w14 (q + 1) w13.heap.size = only w13 (q + 1) w13.heap.size := hX14.only (Nat.le_refl _) (.inr (by omega))
        rw [← e] at h7S
        exact h7S.mono (only_wide (by omega) hX14.size)
      · have hy1 : (sF.2 != 0) = true := by simpa using hy
        rw [hy1] at hbad
        obtain ⟨w14, hr14, B14, hX14⟩ := store_part hT13.rs 0 (tokA zTok (.slice none 0 0)) [] [.string ⟨#[]⟩, .int .i64 0, .slice none 0 0, .int .u8 0, .int .u8 0, .int .u8 0, .int .u8 0, .int .u8 0, .int .u8 0, .int .u8 0, .int .u8 0, .int .u8 0, .int .u8 0, .int .u8 0, .int .u8 0, .int .u8 0, .int .u8 0, .int .u8 0, .int .u8 0, .int .u8 0, .int .u8 0, .int .u8 0, .int .u8 0, .int .u8 0, .int .u8 0, .int .u8 0, .int .u8 0, .int .u8 0, .int .u8 0, .int .u8 0, .int .u8 0, .int .u8 0, .int .u8 0, .int .u8 0, .int .u8 0] [] rfl rfl rfl 27 (by kernel_rfl) (one_tok _ _ rfl)
        have B14 : Blk w14 w.heap.size 27 (tokA zTok (.slice none 0 0)) := by simpa using B14
        go_upto_region 10 with (go_at_call 69; (with_reducible refine hbad.mono ?_); rintro e w9 ⟨rfl, rfl⟩)
        refine wp_region_lit ?_
        (first | (refine pl_off (a' := ?_) rfl (by rfl) ?_ ?_; rotate_left 1; (· simp only [Act.put, zzA, zz0, zzS]; rfl)) | (refine pl_y (v := ?_) (a' := ?_) rfl (by rfl) ?_ ?_ ?_; rotate_left 2; (· go_simp; with_reducible rfl); (· simp only [Act.put, zzA, zz0, zzS]; rfl)))
        refine pl_store (by rfl) rfl (run_op_store rfl ?_ ?_ hr14) ?_
        · rfl
        · rfl
        refine wpList_nil ?_
        go_wp2_with fail
        refine bodyPost_ret (v := .agg (tokA zTok (.slice none 0 0))) (results_cell_row (P := Tryd.prog) (fn := Tryd.f39) rfl _ w14 w.heap.size _ _ _ _ rfl B14 Tryd.underlying27 rfl (by kernel_rfl)) rfl ?_
        rw [← HP.out]
        exact ⟨zTok, sF, _, by unfold tokS badS; rw [HRW.out]; simp only [hy, if_false], zTok_bd, rfl, GsV.nil _, RdrAt.exc hT13.rd hX14 (.inl hg), hT13.ex.above hX14 (Nat.le_refl _)⟩
end Go.Proofs.YtgfhbachgniipaaDoor

namespace Go.Proofs.YtgfhbachgniipaaDoor
open Go.RowKit
set_option maxHeartbeats 1000000 in
set_option maxRecDepth 100000 in
theorem get1_any {w : World} {lo g p : Nat} {s : St} (hR : RdrS w lo g s) (rp : Blk w p 84 #[.pointer (some ⟨g, 0, none⟩)]) :
    Calls Tryd.prog 42 #[.pointer (some ⟨p, 0, none⟩)] w fun e w' => ∃ (A : Option Addr) (n c : Nat) (x : List UInt8) (s' : St), blobS 256 s = (x, s') ∧ x.length = n ∧ n ≤ 256 ∧ e = .returned (.slice A n c) ∧ n ≤ c ∧ Rd.u8.Sl (only w' lo g) A n x ∧ RdrS w' lo g s' ∧ Exc g (g + 1) w w' := by
  have hb := blob_S hR 256 (by decide)
  rw [show ((256 : Nat) : Int) = 256 from rfl] at hb
  have x0 := rp.cell 0 (v := .pointer (some ⟨g, 0, none⟩)) rfl
  clear rp
  go_enter Tryd.func42, Tryd.ntmps42
  go_wp2_with (go_at_call 43; (with_reducible refine hb.mono ?_); rintro e w1 ⟨A, n, c, x, s', hp, hn, hz, rfl, h1, h2, h3, h4⟩; have HP := Lib.hid hp; have HN := Lib.hid hn; clear hp hn)
  go_ret
  exact ⟨A, n, c, x, s', HP.out, HN.out, hz, rfl, h1, h2, h3, h4⟩
set_option maxHeartbeats 1000000 in
set_option maxRecDepth 100000 in
theorem name_rd {w : World} {lo g : Nat} {s : St} (hR : RdrS w lo g s) : Calls Tryd.prog 40 #[.agg #[.pointer (some ⟨g, 0, none⟩)]] w fun e w' => ∃ x s', textS 24 s = (x, s') ∧ x.size ≤ 24 ∧ e = .returned (.string x) ∧ RdrS w' lo g s' ∧ Exc g (g + 1) w w' := by
  obtain ⟨W, hW, hE, bx⟩ := box1 w #[.pointer (some ⟨g, 0, none⟩)] 84
  have x0 : W.cell? ⟨w.heap.size, 0, none⟩ = some (.pointer (some ⟨g, 0, none⟩)) := bx 0 _ rfl
  have ht := text_S (RdrAt.ext hR hE : RdrS W lo g s) 24 (by decide)
  rw [show ((24 : Nat) : Int) = 24 from rfl] at ht
  clear bx
  go_enter Tryd.func40, Tryd.ntmps40
  go_upto_region 1 with fail
  rw [← hW]
  clear hW
  go_wp2_with (go_at_call 67; (with_reducible refine ht.mono ?_); rintro e w1 ⟨x, s1, hp, hxs, rfl, hR1, hX1⟩; have HP := Lib.hid hp; clear hp)
  go_ret
  exact ⟨x, s1, HP.out, hxs, rfl, hR1, (Ext.exc hE).trans hX1⟩
def NestP (w w' : World) (lo g : Nat) (rows : List (List UInt8)) (b : Value) : Prop := ∃ vs, w'.ownsRow w.heap.size 37 1 b rows.length vs ∧ ∀ i (h : i < rows.length), ∃ u, vs[i]? = some u ∧ rdB.K (only w' lo g) rows[i] [u]
set_option maxHeartbeats 9000000 in
set_option maxRecDepth 100000 in
theorem blist_any {w : World} {lo g p : Nat} {s : St} (hR : RdrS w lo g s) (rp : Blk w p 84 #[.pointer (some ⟨g, 0, none⟩)]) (hgp : g < p) :
    Calls Tryd.prog 41 #[.agg #[.pointer (some ⟨g, 0, none⟩)], .int .i64 4, .func (.func 42) #[] #[.pointer (some ⟨p, 0, none⟩)]] w fun e w' => ∃ rows s' b, listS 4 (blobS 256) s = (rows, s') ∧ rows.length ≤ 4 ∧ (∀ x ∈ rows, x.length ≤ 256) ∧ e = .returned b ∧ NestP w w' lo g rows b ∧ RdrS w' lo g s' ∧ Exc g (g + 1) w w' := by
  obtain ⟨W, hW, hE, bx⟩ := box1 w #[.pointer (some ⟨g, 0, none⟩)] 84
  have x0 : W.cell? ⟨w.heap.size, 0, none⟩ = some (.pointer (some ⟨g, 0, none⟩)) := bx 0 _ rfl
  have hRW : RdrS W lo g s := RdrAt.ext hR hE
  have hc := count_S hRW 4
  rw [show ((4 : Nat) : Int) = 4 from rfl] at hc
  have rpW := rp.ext hE
  have hgs := hR.lt
  have hpl := rp.lt
  obtain ⟨P, hP⟩ : ∃ P : Ending → World → Prop, (fun e w' => ∃ rows s' b, listS 4 (blobS 256) s = (rows, s') ∧ rows.length ≤ 4 ∧ (∀ x ∈ rows, x.length ≤ 256) ∧ e = .returned b ∧ NestP w w' lo g rows b ∧ RdrS w' lo g s' ∧ Exc g (g + 1) w w') = P := ⟨_, rfl⟩
  rw [hP]
  have HP := Lib.hid hP
  clear bx hR rp hP
  go_enter Tryd.func41, Tryd.ntmps41
  go_upto_region 1 with fail
  rw [← hW]
  clear hW
  go_wp2_with (go_at_call 44; (with_reducible refine hc.mono ?_); rintro e w1 ⟨m, s1, hp1, hm, rfl, hR1, hX1⟩; have HP1 := Lib.hid hp1; clear hp1)
  have rp1 := hX1.blk rpW (.inr hgp)
  have hXs := (Ext.exc hE).trans hX1
  clear hc rpW hRW hX1 hE x0
  go_loopw [6, 11] (fun v i wr => ∃ (k : Nat) (rows : List (List UInt8)) (vs : List Value) (sk : St), k ≤ m ∧ i = .int .i64 k ∧ Hid (manyS (blobS 256) k s1 = (rows, sk)) ∧ RdrS wr lo g sk ∧ Blk wr p 84 #[.pointer (some ⟨g, 0, none⟩)] ∧ Exc g (g + 1) w wr ∧ wr.ownsRow w.heap.size 37 1 v k vs ∧ Hid (rows.length = k) ∧ (∀ x ∈ rows, x.length ≤ 256) ∧ (∀ i (h : i < rows.length), ∃ u, vs[i]? = some u ∧ rdB.K (only wr lo g) rows[i] [u])) (fun _ i _ => m - (intOf i).toNat)
  case atStart => exact ⟨0, [], [], s1, by omega, rfl, Lib.hid rfl, hR1, rp1, hXs, World.ownsRow_nil _ _ _ _, Lib.hid rfl, (fun x hx => by cases hx), (fun i h => by cases h)⟩
  case round =>
    clear hR1 rp1 hXs
    obtain ⟨k, rows, vs, sk, hkm, rfl, HB, hRk, rpk, hXk, hown, HL, hrl, hel⟩ := hrel
    by_cases hlt : k < m
    · have hg1 := get1_any hRk rpk
      have hsz : w.heap.size ≤ wr.heap.size := hXk.size
      go_wp2_with (first | (go_at_call 42; (with_reducible refine hg1.mono ?_); rintro e w2 ⟨A1, n1, c1, x1, s2, hp2, hn1, hz1, rfl, h1c, h1S, hR2, hX2⟩; have HB1 := Lib.hid hp2; have HN1 := Lib.hid hn1; clear hp2 hn1 hg1; have hown2 := own_exc hown hX2 (by omega)) | (at_builtin; refine wpList_append_cells (news := [.slice A1 n1 c1]) rfl elt_nested (.tmp 13) (.tmp 16) rfl (hown2.alloc _) rfl rfl ?c0 ?c1 ?c2 ?c3 ?c4 ?_))
      case c0 => exact ⟨rfl, (fun h => by cases h), fun ad h j u hu => (by cases h; exact new_cells w2 _ #[.slice A1 n1 c1] j u hu)⟩
      case c1 => intro u hu; simp at hu; subst hu; rfl
      case c2 => unfold maxLen; omega
      case c3 => omega
      case c4 => have := hX2.size; simp; omega
      intro v' w3 hown' hgrow
      have hsz2 : w.heap.size ≤ w2.heap.size := Nat.le_trans hsz hX2.size
      have hb3 : Below w.heap.size w2 w3 := below_grown ((Below.refl _ _).alloc hsz2 (.cells #[.slice A1 n1 c1] 37)) (by simp; omega) (hown2.alloc _) hgrow (Nat.le_refl _)
      have hX3 : Exc g (g + 1) w w3 := (hXk.trans hX2).above (lo := g) (l := w.heap.size) (h := w3.heap.size + w.heap.size) ⟨hb3.os, hb3.tape, hb3.output, hb3.size, fun i hi hd => hb3.block i (by have := hb3.size; omega)⟩ (Nat.le_refl _)
      have hR3 := hR2.below hb3 hgs
      have rp3 : Blk w3 p 84 #[.pointer (some ⟨g, 0, none⟩)] := (hb3.block p hpl).trans (hX2.blk rpk (.inr hgp))
      have hvl : vs.length = k := by have := hown.1; omega
      have hon2 : only w2 lo g = only wr lo g := hX2.only (by omega) (.inl (Nat.le_refl _))
      have hon3 : only w3 lo g = only w2 lo g := only_keep fun b _ h2 => hb3.block b (by omega)
      have hel2 : ∀ i (h : i < (rows ++ [x1]).length), ∃ u, (vs ++ [.slice A1 n1 c1])[i]? = some u ∧ rdB.K (only w3 lo g) (rows ++ [x1])[i] [u] := fun i h => by
        have hl := HL.out
        rw [List.length_append] at h
        by_cases hik : i < rows.length
        · obtain ⟨u, hu, hK⟩ := hel i hik
          exact ⟨u, by rw [List.getElem?_append_left (by omega)]; exact hu, by rw [List.getElem_append_left hik, hon3, hon2]; exact hK⟩
        · obtain rfl : i = rows.length := by simp at h; omega
          refine ⟨.slice A1 n1 c1, by rw [List.getElem?_append_right (by omega), hvl, hl, Nat.sub_self]; rfl, ?_⟩
          rw [List.getElem_append_right (Nat.le_refl _)]
          simp only [Nat.sub_self, List.getElem_cons_zero]
          rw [hon3]
          exact ⟨A1, c1, by rw [HN1.out], by rw [HN1.out]; exact h1c, by rw [HN1.out]; exact h1S⟩
      have hrl2 : ∀ y ∈ rows ++ [x1], y.length ≤ 256 := fun y hy => by
        rcases List.mem_append.1 hy with hy | hy
        · exact hrl y hy
        · obtain rfl : y = x1 := by simpa using hy
          rw [HN1.out]; exact hz1
      have HB2 : Hid (manyS (blobS 256) (k + 1) s1 = (rows ++ [x1], s2)) := Lib.hid (by rw [manyS, HB.out]; simp only [HB1.out])
      have HL2 : Hid ((rows ++ [x1]).length = k + 1) := Lib.hid (by rw [List.length_append, HL.out]; rfl)
      clear hgrow hown hown2 hel hrl hX2 hXk hRk rpk hR2 h1S hon2 hon3 HB HL HB1
      go_wp2_with fail
      go_roundw
      case rel => exact ⟨k + 1, rows ++ [x1], _, s2, by omega, by go_num, HB2, hR3, rp3, hX3, hown', HL2, hrl2, hel2⟩
      case measure => simp [intOf]; omega
    · obtain rfl : k = m := by omega
      have HR := Lib.hid hRk
      have HO := Lib.hid hown
      have HE := Lib.hid hel
      clear hRk rpk hown hel
      go_wp2_with fail
      rw [← HP.out]
      exact ⟨rows, sk, _, by unfold listS; simp only [HP1.out, Int.toNat_natCast]; exact HB.out, by rw [HL.out]; omega, hrl, rfl, ⟨vs, by rw [HL.out]; exact HO.out, HE.out⟩, HR.out, hXk⟩
end Go.Proofs.YtgfhbachgniipaaDoor

namespace Go.Proofs.YtgfhbachgniipaaDoor
open Go.RowKit
theorem results_row_tmp {fn : Func} {p u : Tmp} {ty : TypeId} (h : fn.results = #[.cell p ty, .tmp u]) (tmps : Array Value) (w : World) (g : Nat) (t : TypeId) (cs : Array Value) (fr : Nat × Nat) (d : TypeDesc)
    (hp : tmps.getD p undef = .pointer (some ⟨g, 0, none⟩)) (hg : w.heap[g]? = some (.cells cs t fr))
    (hu : Tryd.prog.underlying ty = some d) (hd : d.isRow = true) (hi : (Tryd.prog.info? ty).map (·.size) = some cs.size) {v : Value} (hv : tmps.getD u undef = v) :
    (results fn tmps).run Tryd.prog w = .ok (.tuple #[.agg cs, v]) w := by
  have hp' : tmps[p]?.getD undef = .pointer (some ⟨g, 0, none⟩) := by simpa using hp
  have hv' : tmps[u]?.getD undef = v := by simpa using hv
  have hl := run_loadVar_mid (P := Tryd.prog) w g 0 ty cs.toList d (fun j v hv => by rw [Nat.zero_add, cell_of_row w g j cs t fr hg]; simpa using hv) hu hd (by rw [Array.length_toList]; exact hi)
  simp only [Array.toArray_toList] at hl
  simp [results, h, hp', hv', asAddr, hl]
structure CSt (W0 w : World) (lo g p q : Nat) (s : St) (cs : Array Value) (l1 h1 : Nat) (gs : List Grant) (a : Value) : Prop where
  rd : RdrS w lo g s
  rp : Blk w p 84 #[.pointer (some ⟨g, 0, none⟩)]
  tk : Blk w q 32 cs
  o1 : g < p
  o2 : p < q
  xe : Exc g (q + 1) W0 w
  gv : GsV (only w l1 h1) gs a
  g1 : q + 1 ≤ l1
  g2 : h1 ≤ w.heap.size
section
variable {W0 w w' : World} {lo g p q : Nat} {s s' : St} {cs : Array Value} {l1 h1 : Nat} {gs : List Grant} {a : Value}
theorem CSt.exc (k : CSt W0 w lo g p q s cs l1 h1 gs a) (hR : RdrS w' lo g s') (hX : Exc g (g + 1) w w') : CSt W0 w' lo g p q s' cs l1 h1 gs a := by
  have h1' := k.o1
  have h2' := k.o2
  have h3' := k.g1
  have hs := k.tk.lt
  refine ⟨hR, hX.blk k.rp (.inr (by omega)), hX.blk k.tk (.inr (by omega)), k.o1, k.o2, k.xe.trans (hX.wide (Nat.le_refl _) (by omega)), ?_, k.g1, Nat.le_trans k.g2 hX.size⟩
  rw [hX.only k.g2 (.inr (by omega))]
  exact k.gv
theorem CSt.store (k : CSt W0 w lo g p q s cs l1 h1 gs a) {cs' : Array Value} (hX : Exc q (q + 1) w w') (hB : Blk w' q 32 cs') : CSt W0 w' lo g p q s cs' l1 h1 gs a := by
  have h1' := k.o1
  have h2' := k.o2
  have h3' := k.g1
  have hs := k.tk.lt
  refine ⟨RdrAt.exc k.rd hX (.inl (by omega)), hX.blk k.rp (.inl (by omega)), hB, k.o1, k.o2, k.xe.trans (hX.wide (by omega) (Nat.le_refl _)), ?_, k.g1, Nat.le_trans k.g2 hX.size⟩
  rw [hX.only k.g2 (.inr (by omega))]
  exact k.gv
theorem CSt.put (k : CSt W0 w lo g p q s cs l1 h1 gs a) (i : Nat) (v : Value) : CSt W0 (w.setCell ⟨q, i, none⟩ v) lo g p q s (cs.setIfInBounds i v) l1 h1 gs a :=
  k.store (Exc.setCell (p := ⟨q, i, none⟩) (Nat.le_refl _) (Nat.lt_succ_self _) v) (k.tk.set_ i v)
theorem CSt.tok (k : CSt W0 w lo g p q s cs l1 h1 gs a) (hR : RdrS w' lo g s') (hX : Exc g (g + 1) w w') {l2 h2 : Nat} {gs' : List Grant} {a' : Value} (hG : GsV (only w' l2 h2) gs' a') (hl : q + 1 ≤ l2) (hh : h2 ≤ w'.heap.size) : CSt W0 w' lo g p q s' cs l2 h2 gs' a' := by
  have k2 := k.exc hR hX
  exact ⟨k2.rd, k2.rp, k2.tk, k2.o1, k2.o2, k2.xe, hG, hl, hh⟩
theorem CSt.drew (k : CSt W0 w lo g p q s cs l1 h1 gs a) : CSt W0 w.drew lo g p q s cs l1 h1 gs a :=
  ⟨RdrAt.ext k.rd (Ext.drew (Ext.refl _)), k.rp, k.tk, k.o1, k.o2, k.xe.drew, k.gv, k.g1, k.g2⟩
theorem CSt.rebase (k : CSt W0 w lo g p q s cs l1 h1 gs a) : CSt w w lo g p q s cs l1 h1 gs a := ⟨k.rd, k.rp, k.tk, k.o1, k.o2, Exc.refl _ _ _, k.gv, k.g1, k.g2⟩
end
structure CmdRd (c : Cmd) : Prop where
  kind : intOk c.kind
  tok : TokBd c.tok
  st : c.st.size ≤ 24
  su : c.su.size ≤ 24
  ex : intOk c.ex
  m : c.bodies.length ≤ 4
  x : ∀ x ∈ c.bodies, x.length ≤ 256
  fr : intOk c.fr
  ct : intOk c.ct
  gr : intOk c.gr.r
  gp : c.gr.p.size ≤ 24
  gu : intOk c.gr.u
  id : intOk c.id
theorem CmdRd.len {c : Cmd} (h : CmdRd c) : CmdLen c := ⟨Nat.le_trans h.tok.n (by decide), fun g hg => Nat.le_trans (h.tok.g g hg).1 (by decide), Nat.le_trans h.m (by decide), fun x hx => Nat.le_trans (h.x x hx) (by decide), Nat.le_trans h.st (by decide), Nat.le_trans h.su (by decide), Nat.le_trans h.gp (by decide)⟩
instance decIntOk2 (v : Int) : Decidable (intOk v) := inferInstanceAs (Decidable (_ ∧ _))
theorem zCmd_rd : CmdRd zCmd := ⟨by decide, zTok_bd, by decide, by decide, by decide, by decide, (fun x hx => by simp [zCmd] at hx), by decide, by decide, by decide, by decide, by decide, by decide⟩
def GetC (w : World) (b : List UInt8) (e : Ending) (w' : World) : Prop := ∃ a bb, e = .returned (.tuple #[.agg (cmdA (getC b).1 a bb), .int .i64 (getC b).2]) ∧ CmdIn w' w.heap.size w'.heap.size (getC b).1 a bb ∧ CmdRd (getC b).1 ∧ Ext w w'
theorem getC_zero {w w' : World} {b : List UInt8} {v : Int} (h : getC b = (zCmd, v)) (hE : Ext w w') : GetC w b (.returned (.tuple #[.agg (cmdA zCmd (.slice none 0 0) (.slice none 0 0)), .int .i64 v])) w' := by
  unfold GetC
  rw [h]
  exact ⟨_, _, rfl, ⟨w.heap.size, w.heap.size, Nat.le_refl _, hE.le, GsV.nil _, BsV.nil _⟩, zCmd_rd, hE⟩
theorem NestP.val {w w' : World} {lo g : Nat} {rows : List (List UInt8)} {b : Value} (h : NestP w w' lo g rows b) : ∃ A c, b = .slice A rows.length c := by
  obtain ⟨vs, h, -⟩ := h
  exact own_val h
theorem own_gap {w : World} {l h base : Nat} {e : TypeId} {size : Nat} {v : Value} {n : Nat} {xs : List Value} (k : w.ownsRow base e size v n xs) (hb : h ≤ base) : (gap w l h).ownsRow base e size v n xs := by
  obtain ⟨hl, k⟩ := k
  refine ⟨hl, k.imp id ?_⟩
  rintro ⟨g, cap, cur, h1, h2, h3, h4⟩
  refine ⟨g, cap, cur, h1, h2, ?_, h4⟩
  have hg := (Array.getElem?_eq_some_iff.1 h3).1
  rw [gap_heap, if_pos hg, if_neg (by omega), h3]
  rfl
theorem nest_gap {w0 w : World} {lo g l1 h1 base : Nat} {rows : List (List UInt8)} {b : Value} {vs : List Value} (hown : w.ownsRow base 37 1 b rows.length vs) (hel : ∀ i (h : i < rows.length), ∃ u, vs[i]? = some u ∧ rdB.K (only w lo g) rows[i] [u])
    (h1b : h1 ≤ base) (hgl : g ≤ l1) (hgw : g ≤ w.heap.size) (L : Nat) (hL : L ≤ lo) (hLb : L ≤ base) : BsV (only (gap w l1 h1) L w.heap.size) rows b := by
  have hsz : (gap w l1 h1).heap.size = w.heap.size := by simp [gap]
  have hk : Cle (only w lo g) (only (gap w l1 h1) L w.heap.size) := by
    rw [← gap_off w l1 h1 lo g hgw (.inl hgl)]
    exact only_wide hL hgw
  obtain ⟨A, c, rfl, h2, h3⟩ := own_nested (lo := L) (hi := w.heap.size) (own_gap hown h1b) hLb (by rw [hsz]; exact Nat.le_refl _) (fun i h => by
    obtain ⟨u, hu, hK⟩ := hel i h
    exact ⟨u, hu, rdB.mono hk hK⟩)
  exact ⟨A, c, rfl, h2, h3⟩
def NestQ (w : World) (base lo g : Nat) (rows : List (List UInt8)) (b : Value) : Prop := ∃ vs, w.ownsRow base 37 1 b rows.length vs ∧ ∀ i (h : i < rows.length), ∃ u, vs[i]? = some u ∧ rdB.K (only w lo g) rows[i] [u]
theorem NestQ.exc {w w' : World} {base lo g l h : Nat} {rows : List (List UInt8)} {b : Value} (k : NestQ w base lo g rows b) (hX : Exc l h w w') (h1 : h ≤ base) (h2 : h ≤ lo ∨ g ≤ l) (h3 : g ≤ w.heap.size) : NestQ w' base lo g rows b := by
  obtain ⟨vs, h4, h5⟩ := k
  refine ⟨vs, own_exc h4 hX h1, fun i hi => ?_⟩
  rw [hX.only h3 h2.symm]
  exact h5 i hi
theorem NestQ.ext {w w' : World} {base lo g : Nat} {rows : List (List UInt8)} {b : Value} (k : NestQ w base lo g rows b) (hE : Ext w w') (h3 : g ≤ w.heap.size) : NestQ w' base lo g rows b :=
  k.exc (l := 0) (h := 0) hE.exc (Nat.zero_le _) (.inl (Nat.zero_le _)) h3
theorem NestQ.split {w : World} {lo g l1 h1 base : Nat} {rows : List (List UInt8)} {b : Value} (k : NestQ w base lo g rows b) (h1b : h1 ≤ base) (hgl : g ≤ l1) (hgw : g ≤ w.heap.size) (L : Nat) (hL : L ≤ lo) (hLb : L ≤ base) : BsV (only (gap w l1 h1) L w.heap.size) rows b := by
  obtain ⟨vs, h4, h5⟩ := k
  exact nest_gap (w0 := w) h4 h5 h1b hgl hgw L hL hLb
theorem cmd_step {s0 s1 s2 s3 s4 s5 s6 s7 s8 s9 s10 : St} {k : Int} {t : Tok} {x y : ByteArray} {e f c i : Int} {g : Grant} {rows : List (List UInt8)} (h1 : intS s0 = (k, s1)) (h2 : tokS s1 = (t, s2)) (h3 : textS 24 s2 = (x, s3)) (h4 : textS 24 s3 = (y, s4)) (h5 : intS s4 = (e, s5)) (h6 : listS 4 (blobS 256) s5 = (rows, s6)) (h7 : intS s6 = (f, s7)) (h8 : intS s7 = (c, s8)) (h9 : grS s8 = (g, s9)) (h10 : intS s9 = (i, s10)) : cmdS s0 = (⟨k, t, x, y, e, rows, f, c, g, i⟩, s10) := by
  unfold cmdS cmdP pairS
  simp only [h1, h2, h3, h4, h5, h6, h7, h8, h9, h10]
theorem getC_full {w w' : World} {l : List UInt8} {c : Cmd} {a b : Value} (h : getC l = (c, 0)) (hi : CmdIn w' w.heap.size w'.heap.size c a b) (hr : CmdRd c) (hE : Ext w w') : GetC w l (.returned (.tuple #[.agg (cmdA c a b), .int .i64 0])) w' := by
  unfold GetC
  rw [h]
  exact ⟨_, _, rfl, hi, hr, hE⟩
set_option maxHeartbeats 9000000 in
set_option maxRecDepth 100000 in
theorem cget_any (w : World) (A : Option Addr) (c : Nat) (l : List UInt8) (hO : OfAt w) (hS : Rd.u8.Sl w A l.length l) (hc : l.length ≤ c) (hn : l.length ≤ 4294967296) :
    Calls Tryd.prog 12 #[.slice A l.length c] w (GetC w l) := by
  obtain ⟨P, hP⟩ : ∃ P, GetC w l = P := ⟨_, rfl⟩
  rw [hP]
  have HP := Lib.hid hP
  clear hP
  have hrd := fun (w' : World) (h : Ext w w') => read_any w' A c l (hS.ext h) hc hn
  obtain ⟨n, hln⟩ : ∃ n, l.length = n := ⟨_, rfl⟩
  rw [hln] at hrd hc hn ⊢
  clear hS
  obtain ⟨W, hW, hE, -⟩ := box1 w #[.int .i64 0, .string ⟨#[]⟩, .int .i64 0, .slice none 0 0, .int .u8 0, .int .u8 0, .int .u8 0, .int .u8 0, .int .u8 0, .int .u8 0, .int .u8 0, .int .u8 0, .int .u8 0, .int .u8 0, .int .u8 0, .int .u8 0, .int .u8 0, .int .u8 0, .int .u8 0, .int .u8 0, .int .u8 0, .int .u8 0, .int .u8 0, .int .u8 0, .int .u8 0, .int .u8 0, .int .u8 0, .int .u8 0, .int .u8 0, .int .u8 0, .int .u8 0, .int .u8 0, .int .u8 0, .int .u8 0, .int .u8 0, .int .u8 0, .string ⟨#[]⟩, .string ⟨#[]⟩, .int .i64 0, .slice none 0 0, .int .i64 0, .int .i64 0, .int .i64 0, .string ⟨#[]⟩, .bool false, .int .i64 0, .int .i64 0] 32
  have B : Blk W w.heap.size 32 #[.int .i64 0, .string ⟨#[]⟩, .int .i64 0, .slice none 0 0, .int .u8 0, .int .u8 0, .int .u8 0, .int .u8 0, .int .u8 0, .int .u8 0, .int .u8 0, .int .u8 0, .int .u8 0, .int .u8 0, .int .u8 0, .int .u8 0, .int .u8 0, .int .u8 0, .int .u8 0, .int .u8 0, .int .u8 0, .int .u8 0, .int .u8 0, .int .u8 0, .int .u8 0, .int .u8 0, .int .u8 0, .int .u8 0, .int .u8 0, .int .u8 0, .int .u8 0, .int .u8 0, .int .u8 0, .int .u8 0, .int .u8 0, .int .u8 0, .string ⟨#[]⟩, .string ⟨#[]⟩, .int .i64 0, .slice none 0 0, .int .i64 0, .int .i64 0, .int .i64 0, .string ⟨#[]⟩, .bool false, .int .i64 0, .int .i64 0] := by rw [hW]; exact Blk.new _ _ _
  have hWs : W.heap.size = w.heap.size + 1 := by rw [hW]; simp
  go_enter Tryd.func12, Tryd.ntmps12
  go_upto_region 1 with fail
  rw [← hW]
  clear hW
  go_upto_region 2 with (go_at_call 37; (with_reducible refine (hrd _ hE).mono ?_); rintro e w1 ⟨g, rfl, hR1, hg1, hg2, hE1⟩)
  rw [hWs] at hR1 hg1
  have hR1 : RdrS w1 (w.heap.size + 1) g (l, 0) := hR1
  have hEp : Ext w1 (w1.alloc (.cells #[.pointer (some ⟨g, 0, none⟩)] 84)) := (Ext.refl _).alloc _
  have Bp := Blk.new w1 84 #[.pointer (some ⟨g, 0, none⟩)]
  have hs2 : (w1.alloc (.cells #[.pointer (some ⟨g, 0, none⟩)] 84)).heap.size = w1.heap.size + 1 := by simp
  generalize w1.alloc (.cells #[.pointer (some ⟨g, 0, none⟩)] 84) = w2 at *
  have hR2 : RdrS w2 (w.heap.size + 1) g (l, 0) := RdrAt.ext hR1 hEp
  have hE2 := hE1.trans hEp
  refine wp_region_lit ?_
  have bpc := Bp.cell 0 (v := .pointer (some ⟨g, 0, none⟩)) rfl
  iterate 2 (first | (refine pl_off (a' := ?_) rfl (by rfl) ?_ ?_; rotate_left 1; (· simp only [Act.put, zzA, zz0, zzS]; rfl)) | (refine pl_y (v := ?_) (a' := ?_) rfl (by rfl) ?_ ?_ ?_; rotate_left 2; (· go_simp; with_reducible rfl); (· simp only [Act.put, zzA, zz0, zzS]; rfl)))
  refine pl_call (args := ?_) Tryd.func38 (by kernel_rfl) rfl (by rfl) rfl rfl ?_ ?_
  rotate_left 1
  · go_simp; with_reducible rfl
  (with_reducible refine (int_S hR2).mono ?_)
  rintro e w3 ⟨ck, s1, hp1, hz1, rfl, hR3, hX3⟩
  refine ⟨_, _, rfl, (by simp only [Act.put, zzA, zz0, zzS]; rfl), ?_⟩
  have HP1 := Lib.hid hp1
  (first | (refine pl_off (a' := ?_) rfl (by rfl) ?_ ?_; rotate_left 1; (· simp only [Act.put, zzA, zz0, zzS]; rfl)) | (refine pl_y (v := ?_) (a' := ?_) rfl (by rfl) ?_ ?_ ?_; rotate_left 2; (· go_simp; with_reducible rfl); (· simp only [Act.put, zzA, zz0, zzS]; rfl)))
  refine pl_v (v := ?_) (w1 := ?_) (a' := ?_) rfl (by rfl) ?_ ?_ ?_
  rotate_left 3
  · go_simp; refine ⟨?_, ?_⟩ <;> with_reducible rfl
  · simp only [Act.put, zzA, zz0, zzS]; rfl
  obtain ⟨V, hV, hEV, -⟩ := box1 w3 #[.int .i64 0, .string ⟨#[]⟩, .int .i64 0, .slice none 0 0, .int .u8 0, .int .u8 0, .int .u8 0, .int .u8 0, .int .u8 0, .int .u8 0, .int .u8 0, .int .u8 0, .int .u8 0, .int .u8 0, .int .u8 0, .int .u8 0, .int .u8 0, .int .u8 0, .int .u8 0, .int .u8 0, .int .u8 0, .int .u8 0, .int .u8 0, .int .u8 0, .int .u8 0, .int .u8 0, .int .u8 0, .int .u8 0, .int .u8 0, .int .u8 0, .int .u8 0, .int .u8 0, .int .u8 0, .int .u8 0, .int .u8 0, .int .u8 0, .string ⟨#[]⟩, .string ⟨#[]⟩, .int .i64 0, .slice none 0 0, .int .i64 0, .int .i64 0, .int .i64 0, .string ⟨#[]⟩, .bool false, .int .i64 0, .int .i64 0] 32
  have BV : Blk V w3.heap.size 32 #[.int .i64 0, .string ⟨#[]⟩, .int .i64 0, .slice none 0 0, .int .u8 0, .int .u8 0, .int .u8 0, .int .u8 0, .int .u8 0, .int .u8 0, .int .u8 0, .int .u8 0, .int .u8 0, .int .u8 0, .int .u8 0, .int .u8 0, .int .u8 0, .int .u8 0, .int .u8 0, .int .u8 0, .int .u8 0, .int .u8 0, .int .u8 0, .int .u8 0, .int .u8 0, .int .u8 0, .int .u8 0, .int .u8 0, .int .u8 0, .int .u8 0, .int .u8 0, .int .u8 0, .int .u8 0, .int .u8 0, .int .u8 0, .int .u8 0, .string ⟨#[]⟩, .string ⟨#[]⟩, .int .i64 0, .slice none 0 0, .int .i64 0, .int .i64 0, .int .i64 0, .string ⟨#[]⟩, .bool false, .int .i64 0, .int .i64 0] := by rw [hV]; exact Blk.new _ _ _
  rw [← hV]
  obtain ⟨V2, hr, BV2, hXV⟩ := store_part BV 0 (cmdA ⟨ck, zTok, ⟨#[]⟩, ⟨#[]⟩, 0, [], 0, 0, zGrant, 0⟩ (.slice none 0 0) (.slice none 0 0)) [] [.int .i64 0, .string ⟨#[]⟩, .int .i64 0, .slice none 0 0, .int .u8 0, .int .u8 0, .int .u8 0, .int .u8 0, .int .u8 0, .int .u8 0, .int .u8 0, .int .u8 0, .int .u8 0, .int .u8 0, .int .u8 0, .int .u8 0, .int .u8 0, .int .u8 0, .int .u8 0, .int .u8 0, .int .u8 0, .int .u8 0, .int .u8 0, .int .u8 0, .int .u8 0, .int .u8 0, .int .u8 0, .int .u8 0, .int .u8 0, .int .u8 0, .int .u8 0, .int .u8 0, .int .u8 0, .int .u8 0, .int .u8 0, .int .u8 0, .string ⟨#[]⟩, .string ⟨#[]⟩, .int .i64 0, .slice none 0 0, .int .i64 0, .int .i64 0, .int .i64 0, .string ⟨#[]⟩, .bool false, .int .i64 0, .int .i64 0] [] rfl rfl rfl 32 (by kernel_rfl) (one_cmd _ _ _ rfl rfl)
  have BV2 : Blk V2 w3.heap.size 32 (cmdA ⟨ck, zTok, ⟨#[]⟩, ⟨#[]⟩, 0, [], 0, 0, zGrant, 0⟩ (.slice none 0 0) (.slice none 0 0)) := by simpa using BV2
  have hw3 : w2.heap.size ≤ w3.heap.size := hX3.size
  have hK0 : CSt V2 V2 (w.heap.size + 1) g w1.heap.size w3.heap.size s1 (cmdA ⟨ck, zTok, ⟨#[]⟩, ⟨#[]⟩, 0, [], 0, 0, zGrant, 0⟩ (.slice none 0 0) (.slice none 0 0)) (w3.heap.size + 1) (w3.heap.size + 1) [] (.slice none 0 0) :=
    ⟨RdrAt.exc (RdrAt.ext hR3 hEV) hXV (.inl (by omega)), hXV.blk ((hX3.blk Bp (.inr (by omega))).ext hEV) (.inl (by omega)), BV2, by omega, by omega, Exc.refl _ _ _, GsV.nil _, Nat.le_refl _, BV2.lt⟩
  have hEw : Ext w V2 := Exc.ext ((Exc.ext (hE.trans hE2) hX3 (by omega)).trans hEV) hXV (by have := hE.le; omega)
  have hD0 : Blk V2 w.heap.size 32 #[.int .i64 0, .string ⟨#[]⟩, .int .i64 0, .slice none 0 0, .int .u8 0, .int .u8 0, .int .u8 0, .int .u8 0, .int .u8 0, .int .u8 0, .int .u8 0, .int .u8 0, .int .u8 0, .int .u8 0, .int .u8 0, .int .u8 0, .int .u8 0, .int .u8 0, .int .u8 0, .int .u8 0, .int .u8 0, .int .u8 0, .int .u8 0, .int .u8 0, .int .u8 0, .int .u8 0, .int .u8 0, .int .u8 0, .int .u8 0, .int .u8 0, .int .u8 0, .int .u8 0, .int .u8 0, .int .u8 0, .int .u8 0, .int .u8 0, .string ⟨#[]⟩, .string ⟨#[]⟩, .int .i64 0, .slice none 0 0, .int .i64 0, .int .i64 0, .int .i64 0, .string ⟨#[]⟩, .bool false, .int .i64 0, .int .i64 0] := hXV.blk ((hX3.blk (B.ext hE2) (.inl (by omega))).ext hEV) (.inl (by omega))
  refine pl_store (by rfl) rfl (run_op_store rfl ?_ ?_ hr) ?_
  · rfl
  · rfl
  refine wpList_nil ?_
  clear hr hXV BV2 BV hV hEV hX3 hR3 hp1 bpc hR2 hE2 hs2 Bp hEp hE1 hR1 hrd B hE hg2 hw3
  generalize w1.heap.size = p at *
  generalize w3.heap.size = q at *
  have hlo : w.heap.size + 1 ≤ g := hg1
  have htr := tread_any hK0.rd
  unfold TokRdP at htr
  have bp0 := hK0.rp.cell 0 (v := .pointer (some ⟨g, 0, none⟩)) rfl
  go_upto_region 4 with (first | (go_at_call 39; (with_reducible refine htr.mono ?_); rintro e w4 ⟨t, sT, a, hpT, htb, rfl, hG4, hR4, hX4⟩; have HPT := Lib.hid hpT; have hK1 := hK0.tok hR4 hX4 hG4 hK0.tk.lt (Nat.le_refl _); have hat : a.oneCell' = true := (by obtain ⟨_, _, rfl, _⟩ := hG4; rfl); obtain ⟨w5, hr5, B5, hX5⟩ := store_part hK1.tk 1 (tokA t a) [.int .i64 ck] (tokA zTok (.slice none 0 0)).toList [.string ⟨#[]⟩, .string ⟨#[]⟩, .int .i64 0, .slice none 0 0, .int .i64 0, .int .i64 0, .int .i64 0, .string ⟨#[]⟩, .bool false, .int .i64 0, .int .i64 0] rfl rfl rfl 27 (by kernel_rfl) (one_tok _ _ hat); clear hpT htr) | (refine wpList_store_by rfl rfl ?_ ?_ hr5 ?_; (· rfl); (· rfl)))
  have B5 : Blk w5 q 32 (cmdA ⟨ck, t, ⟨#[]⟩, ⟨#[]⟩, 0, [], 0, 0, zGrant, 0⟩ a (.slice none 0 0)) := B5
  have hK5 := hK1.store hX5 B5
  clear hr5 B5 hX5 hK1 hX4 hR4 hG4 hK0 bp0
  obtain ⟨l1, hl1⟩ : ∃ z, V2.heap.size = z := ⟨_, rfl⟩
  obtain ⟨h1, hh1⟩ : ∃ z, w4.heap.size = z := ⟨_, rfl⟩
  rw [hl1, hh1] at hK5
  have rp := fun (w' : World) (h : Blk w' p 84 #[.pointer (some ⟨g, 0, none⟩)]) => h.cell 0 (v := .pointer (some ⟨g, 0, none⟩)) rfl
  refine wp_region_noPanic ?_
  refine tr_start (.y 0 (.y 2 (.y 4 (.y 5 (.e 1 (.y 7 (.e 3 (.e 6 (.e 8 (.y 9 (.e 10 (.y 11 (.e 12 .nil))))))))))))) (fun w' => Blk w' p 84 #[.pointer (some ⟨g, 0, none⟩)]) (by kernel_rfl) (by as_aux_lemma => kernel_rfl) (fun _ _ _ _ _ h => h) (hK5.drew.rp) ?_
  iterate 4 (first | (refine tr_off (a' := ?_) rfl rfl (by rfl) ?_ ?_; rotate_left 1; (· simp only [Act.put, zzA, zz0, zzS]; rfl)) | (refine tr_y (v := ?_) (a' := ?_) rfl rfl (by rfl) (fun w' hw' => ?_) ?_ ?_; rotate_left 2; (· go_simp; with_reducible rfl); (· simp only [Act.put, zzA, zz0, zzS]; rfl)))
  have hKd := hK5.drew
  generalize w5.drew = wd at hKd ⊢
  refine tr_call (args := ?_) rfl Tryd.func40 (by kernel_rfl) rfl (by rfl) rfl rfl ?_ ?_
  rotate_left 1
  · go_simp; rfl
  (with_reducible refine (name_rd hKd.rd).mono ?_)
  rintro e w6 ⟨x2, s2, hp2, hz2, rfl, hR3, hX3⟩
  refine ⟨_, _, rfl, (hKd).exc hR3 hX3 |>.rp, (by simp only [Act.put, zzA, zz0, zzS]; rfl), ?_⟩
  iterate 1 (first | (refine tr_off (a' := ?_) rfl rfl (by rfl) ?_ ?_; rotate_left 1; (· simp only [Act.put, zzA, zz0, zzS]; rfl)) | (refine tr_y (v := ?_) (a' := ?_) rfl rfl (by rfl) (fun w' hw' => ?_) ?_ ?_; rotate_left 2; (· go_simp; with_reducible rfl); (· simp only [Act.put, zzA, zz0, zzS]; rfl)))
  have HP2 := Lib.hid hp2
  have hK6 := (hKd).exc hR3 hX3
  clear hp2 hR3 hX3
  refine tr_call (args := ?_) rfl Tryd.func40 (by kernel_rfl) rfl (by rfl) rfl rfl ?_ ?_
  rotate_left 1
  · go_simp; rfl
  (with_reducible refine (name_rd hK6.rd).mono ?_)
  rintro e w7 ⟨x3, s3, hp3, hz3, rfl, hR3, hX3⟩
  refine ⟨_, _, rfl, (hK6).exc hR3 hX3 |>.rp, (by simp only [Act.put, zzA, zz0, zzS]; rfl), ?_⟩
  have HP3 := Lib.hid hp3
  have hK7 := (hK6).exc hR3 hX3
  clear hp3 hR3 hX3
  refine tr_call (args := ?_) rfl Tryd.func38 (by kernel_rfl) rfl (by rfl) rfl rfl ?_ ?_
  rotate_left 1
  · go_simp; rfl
  (with_reducible refine (int_S hK7.rd).mono ?_)
  rintro e w8 ⟨x4, s4, hp4, hz4, rfl, hR3, hX3⟩
  refine ⟨_, _, rfl, (hK7).exc hR3 hX3 |>.rp, (by simp only [Act.put, zzA, zz0, zzS]; rfl), ?_⟩
  have HP4 := Lib.hid hp4
  have hK8 := (hK7).exc hR3 hX3
  clear hp4 hR3 hX3
  clear hK5 hKd hK6 hK7
  have cz := (hK8).tk.cell 36 (v := .string ⟨#[]⟩) rfl
  have cf := (hK8).tk.frozen 36
  have hK9 := (hK8).put 36 (.string x2)
  refine tr_store (w1 := (w8).setCell ⟨q, 36, none⟩ (.string x2)) rfl (by rfl) rfl (by go_simp; try rfl) ((hK9).rp) ?_
  iterate 1 (first | (refine tr_off (a' := ?_) rfl rfl (by rfl) ?_ ?_; rotate_left 1; (· simp only [Act.put, zzA, zz0, zzS]; rfl)) | (refine tr_y (v := ?_) (a' := ?_) rfl rfl (by rfl) (fun w' hw' => ?_) ?_ ?_; rotate_left 2; (· go_simp; with_reducible rfl); (· simp only [Act.put, zzA, zz0, zzS]; rfl)))
  generalize (w8).setCell ⟨q, 36, none⟩ (.string x2) = w9 at hK9 ⊢
  have hK9 : CSt _ w9 (w.heap.size + 1) g p q _ (cmdA ⟨ck, t, x2, ⟨#[]⟩, 0, [], 0, 0, zGrant, 0⟩ a (.slice none 0 0)) _ _ t.gs a := hK9
  clear cz cf
  have cz := (hK9).tk.cell 37 (v := .string ⟨#[]⟩) rfl
  have cf := (hK9).tk.frozen 37
  have hK10 := (hK9).put 37 (.string x3)
  refine tr_store (w1 := (w9).setCell ⟨q, 37, none⟩ (.string x3)) rfl (by rfl) rfl (by go_simp; try rfl) ((hK10).rp) ?_
  iterate 1 (first | (refine tr_off (a' := ?_) rfl rfl (by rfl) ?_ ?_; rotate_left 1; (· simp only [Act.put, zzA, zz0, zzS]; rfl)) | (refine tr_y (v := ?_) (a' := ?_) rfl rfl (by rfl) (fun w' hw' => ?_) ?_ ?_; rotate_left 2; (· go_simp; with_reducible rfl); (· simp only [Act.put, zzA, zz0, zzS]; rfl)))
  generalize (w9).setCell ⟨q, 37, none⟩ (.string x3) = w10 at hK10 ⊢
  have hK10 : CSt _ w10 (w.heap.size + 1) g p q _ (cmdA ⟨ck, t, x2, x3, 0, [], 0, 0, zGrant, 0⟩ a (.slice none 0 0)) _ _ t.gs a := hK10
  clear cz cf
  have cz := (hK10).tk.cell 38 (v := .int .i64 0) rfl
  have cf := (hK10).tk.frozen 38
  have hK11 := (hK10).put 38 (.int .i64 x4)
  refine tr_store (w1 := (w10).setCell ⟨q, 38, none⟩ (.int .i64 x4)) rfl (by rfl) rfl (by go_simp; try rfl) ((hK11).rp) ?_
  generalize (w10).setCell ⟨q, 38, none⟩ (.int .i64 x4) = w11 at hK11 ⊢
  have hK11 : CSt _ w11 (w.heap.size + 1) g p q _ (cmdA ⟨ck, t, x2, x3, x4, [], 0, 0, zGrant, 0⟩ a (.slice none 0 0)) _ _ t.gs a := hK11
  clear cz cf
  refine tr_end (NoPanic.normal ?_)
  clear hK8 hK9 hK10
  have hls := blist_any hK11.rd hK11.rp hK11.o1
  have bp1 := hK11.rp.cell 0 (v := .pointer (some ⟨g, 0, none⟩)) rfl
  go_upto_region 6 with (go_at_call 41; (with_reducible refine hls.mono ?_); rintro e w12 ⟨rows, s5, b, hp5, hrn, hrl, rfl, hNE, hR12, hX12⟩; have HP5 := Lib.hid hp5; clear hp5 hls; obtain ⟨A9, c9, rfl⟩ := hNE.val; have hK12 := hK11.exc hR12 hX12; have cz := hK12.tk.cell 39 (v := .slice none 0 0) rfl; have cf := hK12.tk.frozen 39)
  have hK13 : CSt w12 (w12.setCell ⟨q, 39, none⟩ (.slice A9 rows.length c9)) (w.heap.size + 1) g p q s5 (cmdA ⟨ck, t, x2, x3, x4, rows, 0, 0, zGrant, 0⟩ a (.slice A9 rows.length c9)) l1 h1 t.gs a := hK12.rebase.put 39 (.slice A9 rows.length c9)
  have hE12 : Ext w w12 := Exc.ext hEw hK12.xe (by omega)
  have hD12 : Blk w12 w.heap.size 32 #[.int .i64 0, .string ⟨#[]⟩, .int .i64 0, .slice none 0 0, .int .u8 0, .int .u8 0, .int .u8 0, .int .u8 0, .int .u8 0, .int .u8 0, .int .u8 0, .int .u8 0, .int .u8 0, .int .u8 0, .int .u8 0, .int .u8 0, .int .u8 0, .int .u8 0, .int .u8 0, .int .u8 0, .int .u8 0, .int .u8 0, .int .u8 0, .int .u8 0, .int .u8 0, .int .u8 0, .int .u8 0, .int .u8 0, .int .u8 0, .int .u8 0, .int .u8 0, .int .u8 0, .int .u8 0, .int .u8 0, .int .u8 0, .int .u8 0, .string ⟨#[]⟩, .string ⟨#[]⟩, .int .i64 0, .slice none 0 0, .int .i64 0, .int .i64 0, .int .i64 0, .string ⟨#[]⟩, .bool false, .int .i64 0, .int .i64 0] := hK12.xe.blk hD0 (.inl (by omega))
  have hs12 : q + 1 ≤ w11.heap.size := hK11.tk.lt
  have hgw12 : g ≤ w12.heap.size := by have := hK12.tk.lt; have := hK12.o1; have := hK12.o2; omega
  have hg12 : h1 ≤ w11.heap.size := hK11.g2
  have hgl : g ≤ l1 := by have := hK11.g1; have := hK11.o1; have := hK11.o2; omega
  generalize w12.setCell ⟨q, 39, none⟩ (.slice A9 rows.length c9) = w13 at *
  clear cz cf hK12 hR12 hX12 hK11 bp1 hD0 hEw
  refine wp_region_noPanic ?_
  refine tr_start (.y 0 (.y 1 (.y 3 (.y 4 (.e 2 (.y 6 (.e 5 (.e 7 (.y 8 (.e 9 .nil)))))))))) (fun w' => Blk w' p 84 #[.pointer (some ⟨g, 0, none⟩)]) (by kernel_rfl) (by as_aux_lemma => kernel_rfl) (fun _ _ _ _ _ h => h) (hK13.drew.rp) ?_
  iterate 4 (first | (refine tr_off (a' := ?_) rfl rfl (by rfl) ?_ ?_; rotate_left 1; (· simp only [Act.put, zzA, zz0, zzS]; rfl)) | (refine tr_y (v := ?_) (a' := ?_) rfl rfl (by rfl) (fun w' hw' => ?_) ?_ ?_; rotate_left 2; (· go_simp; with_reducible rfl); (· simp only [Act.put, zzA, zz0, zzS]; rfl)))
  have hKd := hK13.drew
  generalize w13.drew = wd at hKd ⊢
  refine tr_call (args := ?_) rfl Tryd.func38 (by kernel_rfl) rfl (by rfl) rfl rfl ?_ ?_
  rotate_left 1
  · go_simp; rfl
  (with_reducible refine (int_S hKd.rd).mono ?_)
  rintro e w14 ⟨x6, s6, hp6, hz6, rfl, hR3, hX3⟩
  refine ⟨_, _, rfl, (hKd).exc hR3 hX3 |>.rp, (by simp only [Act.put, zzA, zz0, zzS]; rfl), ?_⟩
  iterate 1 (first | (refine tr_off (a' := ?_) rfl rfl (by rfl) ?_ ?_; rotate_left 1; (· simp only [Act.put, zzA, zz0, zzS]; rfl)) | (refine tr_y (v := ?_) (a' := ?_) rfl rfl (by rfl) (fun w' hw' => ?_) ?_ ?_; rotate_left 2; (· go_simp; with_reducible rfl); (· simp only [Act.put, zzA, zz0, zzS]; rfl)))
  have HP6 := Lib.hid hp6
  have hK14 := (hKd).exc hR3 hX3
  clear hp6 hR3 hX3
  refine tr_call (args := ?_) rfl Tryd.func38 (by kernel_rfl) rfl (by rfl) rfl rfl ?_ ?_
  rotate_left 1
  · go_simp; rfl
  (with_reducible refine (int_S hK14.rd).mono ?_)
  rintro e w15 ⟨x7, s7, hp7, hz7, rfl, hR3, hX3⟩
  refine ⟨_, _, rfl, (hK14).exc hR3 hX3 |>.rp, (by simp only [Act.put, zzA, zz0, zzS]; rfl), ?_⟩
  have HP7 := Lib.hid hp7
  have hK15 := (hK14).exc hR3 hX3
  clear hp7 hR3 hX3
  clear hK13 hKd hK14
  have cz := (hK15).tk.cell 40 (v := .int .i64 0) rfl
  have cf := (hK15).tk.frozen 40
  have hK16 := (hK15).put 40 (.int .i64 x6)
  refine tr_store (w1 := (w15).setCell ⟨q, 40, none⟩ (.int .i64 x6)) rfl (by rfl) rfl (by go_simp; try rfl) ((hK16).rp) ?_
  iterate 1 (first | (refine tr_off (a' := ?_) rfl rfl (by rfl) ?_ ?_; rotate_left 1; (· simp only [Act.put, zzA, zz0, zzS]; rfl)) | (refine tr_y (v := ?_) (a' := ?_) rfl rfl (by rfl) (fun w' hw' => ?_) ?_ ?_; rotate_left 2; (· go_simp; with_reducible rfl); (· simp only [Act.put, zzA, zz0, zzS]; rfl)))
  generalize (w15).setCell ⟨q, 40, none⟩ (.int .i64 x6) = w16 at hK16 ⊢
  have hK16 : CSt _ w16 (w.heap.size + 1) g p q _ (cmdA ⟨ck, t, x2, x3, x4, rows, x6, 0, zGrant, 0⟩ a (.slice A9 rows.length c9)) _ _ t.gs a := hK16
  clear cz cf
  have cz := (hK16).tk.cell 41 (v := .int .i64 0) rfl
  have cf := (hK16).tk.frozen 41
  have hK17 := (hK16).put 41 (.int .i64 x7)
  refine tr_store (w1 := (w16).setCell ⟨q, 41, none⟩ (.int .i64 x7)) rfl (by rfl) rfl (by go_simp; try rfl) ((hK17).rp) ?_
  generalize (w16).setCell ⟨q, 41, none⟩ (.int .i64 x7) = w17 at hK17 ⊢
  have hK17 : CSt _ w17 (w.heap.size + 1) g p q _ (cmdA ⟨ck, t, x2, x3, x4, rows, x6, x7, zGrant, 0⟩ a (.slice A9 rows.length c9)) _ _ t.gs a := hK17
  clear cz cf
  refine tr_end (NoPanic.normal ?_)
  clear hK15 hK16
  go_upto_region 7 with fail
  refine wp_region_noPanic ?_
  refine tr_start (.y 0 (.y 1 (.y 3 (.e 2 (.y 5 (.y 6 (.e 4 (.e 7 (.y 8 (.y 9 (.e 10 .nil))))))))))) (fun w' => Blk w' p 84 #[.pointer (some ⟨g, 0, none⟩)]) (by kernel_rfl) (by as_aux_lemma => kernel_rfl) (fun _ _ _ _ _ h => h) (hK17.drew.rp) ?_
  iterate 3 (first | (refine tr_off (a' := ?_) rfl rfl (by rfl) ?_ ?_; rotate_left 1; (· simp only [Act.put, zzA, zz0, zzS]; rfl)) | (refine tr_y (v := ?_) (a' := ?_) rfl rfl (by rfl) (fun w' hw' => ?_) ?_ ?_; rotate_left 2; (· go_simp; with_reducible rfl); (· simp only [Act.put, zzA, zz0, zzS]; rfl)))
  have hKd := hK17.drew
  generalize w17.drew = wd2 at hKd ⊢
  refine tr_call (args := ?_) rfl Tryd.func38 (by kernel_rfl) rfl (by rfl) rfl rfl ?_ ?_
  rotate_left 1
  · go_simp; rfl
  (with_reducible refine (int_S hKd.rd).mono ?_)
  rintro e w18 ⟨x8, s8, hp8, hz8, rfl, hR3, hX3⟩
  refine ⟨_, _, rfl, (hKd).exc hR3 hX3 |>.rp, (by simp only [Act.put, zzA, zz0, zzS]; rfl), ?_⟩
  iterate 2 (first | (refine tr_off (a' := ?_) rfl rfl (by rfl) ?_ ?_; rotate_left 1; (· simp only [Act.put, zzA, zz0, zzS]; rfl)) | (refine tr_y (v := ?_) (a' := ?_) rfl rfl (by rfl) (fun w' hw' => ?_) ?_ ?_; rotate_left 2; (· go_simp; with_reducible rfl); (· simp only [Act.put, zzA, zz0, zzS]; rfl)))
  have HP8 := Lib.hid hp8
  have hK18 := (hKd).exc hR3 hX3
  clear hp8 hR3 hX3
  refine tr_call (args := ?_) rfl Tryd.func40 (by kernel_rfl) rfl (by rfl) rfl rfl ?_ ?_
  rotate_left 1
  · go_simp; rfl
  (with_reducible refine (name_rd hK18.rd).mono ?_)
  rintro e w19 ⟨x9, s9, hp9, hz9, rfl, hR3, hX3⟩
  refine ⟨_, _, rfl, (hK18).exc hR3 hX3 |>.rp, (by simp only [Act.put, zzA, zz0, zzS]; rfl), ?_⟩
  have HP9 := Lib.hid hp9
  have hK19 := (hK18).exc hR3 hX3
  clear hp9 hR3 hX3
  clear hK17 hKd hK18
  have cz := (hK19).tk.cell 42 (v := .int .i64 0) rfl
  have cf := (hK19).tk.frozen 42
  have hK20 := (hK19).put 42 (.int .i64 x8)
  refine tr_store (w1 := (w19).setCell ⟨q, 42, none⟩ (.int .i64 x8)) rfl (by rfl) rfl (by go_simp; try rfl) ((hK20).rp) ?_
  iterate 2 (first | (refine tr_off (a' := ?_) rfl rfl (by rfl) ?_ ?_; rotate_left 1; (· simp only [Act.put, zzA, zz0, zzS]; rfl)) | (refine tr_y (v := ?_) (a' := ?_) rfl rfl (by rfl) (fun w' hw' => ?_) ?_ ?_; rotate_left 2; (· go_simp; with_reducible rfl); (· simp only [Act.put, zzA, zz0, zzS]; rfl)))
  generalize (w19).setCell ⟨q, 42, none⟩ (.int .i64 x8) = w20 at hK20 ⊢
  have hK20 : CSt _ w20 (w.heap.size + 1) g p q _ (cmdA ⟨ck, t, x2, x3, x4, rows, x6, x7, ⟨x8, ⟨#[]⟩, false, 0⟩, 0⟩ a (.slice A9 rows.length c9)) _ _ t.gs a := hK20
  clear cz cf
  have cz := (hK20).tk.cell 43 (v := .string ⟨#[]⟩) rfl
  have cf := (hK20).tk.frozen 43
  have hK21 := (hK20).put 43 (.string x9)
  refine tr_store (w1 := (w20).setCell ⟨q, 43, none⟩ (.string x9)) rfl (by rfl) rfl (by go_simp; try rfl) ((hK21).rp) ?_
  generalize (w20).setCell ⟨q, 43, none⟩ (.string x9) = w21 at hK21 ⊢
  have hK21 : CSt _ w21 (w.heap.size + 1) g p q _ (cmdA ⟨ck, t, x2, x3, x4, rows, x6, x7, ⟨x8, x9, false, 0⟩, 0⟩ a (.slice A9 rows.length c9)) _ _ t.gs a := hK21
  clear cz cf
  refine tr_end (NoPanic.normal ?_)
  clear hK19 hK20
  go_upto_region 8 with fail
  have hct := count_S hK21.drew.rd 1
  refine wp_region_noPanic ?_
  refine tr_start (.y 0 (.y 1 (.y 4 (.y 5 (.y 7 (.y 8 (.e 2 (.y 3 (.y 10 (.y 11 (.e 6 (.e 9 (.e 12 (.y 13 (.y 14 (.e 15 (.y 16 (.e 17 .nil)))))))))))))))))) (fun w' => Blk w' p 84 #[.pointer (some ⟨g, 0, none⟩)]) (by kernel_rfl) (by as_aux_lemma => kernel_rfl) (fun _ _ _ _ _ h => h) (hK21.drew.rp) ?_
  iterate 6 (first | (refine tr_off (a' := ?_) rfl rfl (by rfl) ?_ ?_; rotate_left 1; (· simp only [Act.put, zzA, zz0, zzS]; rfl)) | (refine tr_y (v := ?_) (a' := ?_) rfl rfl (by rfl) (fun w' hw' => ?_) ?_ ?_; rotate_left 2; (· go_simp; with_reducible rfl); (· simp only [Act.put, zzA, zz0, zzS]; rfl)))
  have hKd := hK21.drew
  generalize w21.drew = wd3 at hKd hct ⊢
  rw [show ((1 : Nat) : Int) = 1 from rfl] at hct
  refine tr_call (args := ?_) rfl Tryd.func44 (by kernel_rfl) rfl (by rfl) rfl rfl ?_ ?_
  rotate_left 1
  · go_simp; rfl
  (with_reducible refine (hct).mono ?_)
  rintro e w22 ⟨x10, s10, hp10, hz10, rfl, hR3, hX3⟩
  refine ⟨_, _, rfl, (hKd).exc hR3 hX3 |>.rp, (by simp only [Act.put, zzA, zz0, zzS]; rfl), ?_⟩
  iterate 3 (first | (refine tr_off (a' := ?_) rfl rfl (by rfl) ?_ ?_; rotate_left 1; (· simp only [Act.put, zzA, zz0, zzS]; rfl)) | (refine tr_y (v := ?_) (a' := ?_) rfl rfl (by rfl) (fun w' hw' => ?_) ?_ ?_; rotate_left 2; (· go_simp; with_reducible rfl); (· simp only [Act.put, zzA, zz0, zzS]; rfl)))
  have HP10 := Lib.hid hp10
  have hK22 := (hKd).exc hR3 hX3
  clear hp10 hR3 hX3
  refine tr_call (args := ?_) rfl Tryd.func38 (by kernel_rfl) rfl (by rfl) rfl rfl ?_ ?_
  rotate_left 1
  · go_simp; rfl
  (with_reducible refine (int_S hK22.rd).mono ?_)
  rintro e w23 ⟨x11, s11, hp11, hz11, rfl, hR3, hX3⟩
  refine ⟨_, _, rfl, (hK22).exc hR3 hX3 |>.rp, (by simp only [Act.put, zzA, zz0, zzS]; rfl), ?_⟩
  have HP11 := Lib.hid hp11
  have hK23 := (hK22).exc hR3 hX3
  clear hp11 hR3 hX3
  refine tr_call (args := ?_) rfl Tryd.func38 (by kernel_rfl) rfl (by rfl) rfl rfl ?_ ?_
  rotate_left 1
  · go_simp; rfl
  (with_reducible refine (int_S hK23.rd).mono ?_)
  rintro e w24 ⟨x12, s12, hp12, hz12, rfl, hR3, hX3⟩
  refine ⟨_, _, rfl, (hK23).exc hR3 hX3 |>.rp, (by simp only [Act.put, zzA, zz0, zzS]; rfl), ?_⟩
  have HP12 := Lib.hid hp12
  have hK24 := (hK23).exc hR3 hX3
  clear hp12 hR3 hX3
  clear hK21 hKd hK22 hK23
  have cz := (hK24).tk.cell 44 (v := .bool false) rfl
  have cf := (hK24).tk.frozen 44
  have hK25 := (hK24).put 44 (.bool ((x10 : Int) == 1))
  refine tr_store (w1 := (w24).setCell ⟨q, 44, none⟩ (.bool ((x10 : Int) == 1))) rfl (by rfl) rfl (by go_simp; try rfl) ((hK25).rp) ?_
  iterate 2 (first | (refine tr_off (a' := ?_) rfl rfl (by rfl) ?_ ?_; rotate_left 1; (· simp only [Act.put, zzA, zz0, zzS]; rfl)) | (refine tr_y (v := ?_) (a' := ?_) rfl rfl (by rfl) (fun w' hw' => ?_) ?_ ?_; rotate_left 2; (· go_simp; with_reducible rfl); (· simp only [Act.put, zzA, zz0, zzS]; rfl)))
  generalize (w24).setCell ⟨q, 44, none⟩ (.bool ((x10 : Int) == 1)) = w25 at hK25 ⊢
  have hK25 : CSt _ w25 (w.heap.size + 1) g p q _ (cmdA ⟨ck, t, x2, x3, x4, rows, x6, x7, ⟨x8, x9, isOne x10, 0⟩, 0⟩ a (.slice A9 rows.length c9)) _ _ t.gs a := hK25
  clear cz cf
  have cz := (hK25).tk.cell 45 (v := .int .i64 0) rfl
  have cf := (hK25).tk.frozen 45
  have hK26 := (hK25).put 45 (.int .i64 x11)
  refine tr_store (w1 := (w25).setCell ⟨q, 45, none⟩ (.int .i64 x11)) rfl (by rfl) rfl (by go_simp; try rfl) ((hK26).rp) ?_
  iterate 1 (first | (refine tr_off (a' := ?_) rfl rfl (by rfl) ?_ ?_; rotate_left 1; (· simp only [Act.put, zzA, zz0, zzS]; rfl)) | (refine tr_y (v := ?_) (a' := ?_) rfl rfl (by rfl) (fun w' hw' => ?_) ?_ ?_; rotate_left 2; (· go_simp; with_reducible rfl); (· simp only [Act.put, zzA, zz0, zzS]; rfl)))
  generalize (w25).setCell ⟨q, 45, none⟩ (.int .i64 x11) = w26 at hK26 ⊢
  have hK26 : CSt _ w26 (w.heap.size + 1) g p q _ (cmdA ⟨ck, t, x2, x3, x4, rows, x6, x7, ⟨x8, x9, isOne x10, x11⟩, 0⟩ a (.slice A9 rows.length c9)) _ _ t.gs a := hK26
  clear cz cf
  have cz := (hK26).tk.cell 46 (v := .int .i64 0) rfl
  have cf := (hK26).tk.frozen 46
  have hK27 := (hK26).put 46 (.int .i64 x12)
  refine tr_store (w1 := (w26).setCell ⟨q, 46, none⟩ (.int .i64 x12)) rfl (by rfl) rfl (by go_simp; try rfl) ((hK27).rp) ?_
  generalize (w26).setCell ⟨q, 46, none⟩ (.int .i64 x12) = w27 at hK27 ⊢
  have hK27 : CSt _ w27 (w.heap.size + 1) g p q _ (cmdA ⟨ck, t, x2, x3, x4, rows, x6, x7, ⟨x8, x9, isOne x10, x11⟩, x12⟩ a (.slice A9 rows.length c9)) _ _ t.gs a := hK27
  clear cz cf
  refine tr_end (NoPanic.normal ?_)
  clear hK24 hK25 hK26 hct
  have hs12' : ∃ z, (⟨ck, t, x2, x3, x4, rows, x6, x7, ⟨x8, x9, isOne x10, x11⟩, x12⟩ : Cmd) = z := ⟨_, rfl⟩
  obtain ⟨cc, hcc⟩ := hs12'
  have hRd : CmdRd cc := by rw [← hcc]; exact ⟨hz1, htb, hz2, hz3, hz4, hrn, hrl, hz6, hz7, hz8, hz9, hz11, hz12⟩
  have HC : Hid (cmdS (l, 0) = (cc, s12)) := Lib.hid (by rw [← hcc]; exact cmd_step HP1.out HPT.out HP2.out HP3.out HP4.out HP5.out HP6.out HP7.out (gr_step HP8.out HP9.out HP10.out HP11.out) HP12.out)
  have hgsC : cc.tok.gs = t.gs := by rw [← hcc]
  have hrwC : cc.bodies = rows := by rw [← hcc]
  rw [hcc] at hK27
  clear HP1 HPT HP2 HP3 HP4 HP5 HP6 HP7 HP8 HP9 HP10 HP11 HP12 hz1 hz2 hz3 hz4 hz6 hz7 hz8 hz9 hz11 hz12 htb hrn hrl
  have hNQ0 : NestQ w12 w11.heap.size (w.heap.size + 1) g rows (.slice A9 rows.length c9) := hNE
  have hX27 := hK27.xe
  have hgq : g < q := by have := hK27.o1; have := hK27.o2; omega
  have hE27 : Ext w w27 := Exc.ext hE12 hX27 (by omega)
  have hNQ := hNQ0.exc hX27 hs12 (.inr (Nat.le_refl _)) hgw12
  have hD27 : Blk w27 w.heap.size 32 #[.int .i64 0, .string ⟨#[]⟩, .int .i64 0, .slice none 0 0, .int .u8 0, .int .u8 0, .int .u8 0, .int .u8 0, .int .u8 0, .int .u8 0, .int .u8 0, .int .u8 0, .int .u8 0, .int .u8 0, .int .u8 0, .int .u8 0, .int .u8 0, .int .u8 0, .int .u8 0, .int .u8 0, .int .u8 0, .int .u8 0, .int .u8 0, .int .u8 0, .int .u8 0, .int .u8 0, .int .u8 0, .int .u8 0, .int .u8 0, .int .u8 0, .int .u8 0, .int .u8 0, .int .u8 0, .int .u8 0, .int .u8 0, .int .u8 0, .string ⟨#[]⟩, .string ⟨#[]⟩, .int .i64 0, .slice none 0 0, .int .i64 0, .int .i64 0, .int .i64 0, .string ⟨#[]⟩, .bool false, .int .i64 0, .int .i64 0] := hX27.blk hD12 (.inl (by omega))
  have hgw27 : g ≤ w27.heap.size := Nat.le_trans hgw12 hX27.size
  have hB27 := hNQ.split hg12 hgl hgw27 w.heap.size (Nat.le_succ _) (by omega)
  have hck := cmdCheck_any w27 cc a (.slice A9 rows.length c9) (hO.ext hE27) (by rw [hgsC]; exact hK27.gv.mono only_cle) (by rw [hrwC]; exact hB27.mono (Cle.trans (gap_cle _ _ _ _ _ (Nat.le_refl _)) only_cle)) hRd.len
  have hl27 := fun (w' : World) (e : Ext w27 w') => load_whole (hK27.tk.ext e) 32 _ Tryd.underlying32 rfl (by kernel_rfl)
  have hen := end_S hK27.rd
  have bp2 := hK27.rp.cell 0 (v := .pointer (some ⟨g, 0, none⟩)) rfl
  obtain ⟨ev, hev⟩ : ∃ z, endS s12 = z := ⟨_, rfl⟩
  rw [hev] at hen
  have HE := Lib.hid hev
  clear hNQ0 hX27 hE12 hD12 hB27 hev hcc hNE
  by_cases he : ev = 0
  · subst he
    go_upto_region 11 with (go_at_call 45; (with_reducible refine hen.mono ?_); rintro e w9 ⟨rfl, rfl⟩)
    refine wp_region_lit ?_
    refine pl_y (v := ?_) (a' := ?_) rfl (by rfl) ?_ ?_ ?_
    rotate_left 2
    · (refine (run_op_load rfl ?_ ((hl27 _ (Ext.refl _)))).trans ?_; (· rfl); (· with_reducible rfl))
    · simp only [Act.put, zzA, zz0, zzS]; rfl
    refine pl_call (args := ?_) Tryd.func7 (by kernel_rfl) rfl (by rfl) rfl rfl ?_ ?_
    rotate_left 1
    · go_simp; with_reducible rfl
    (with_reducible refine (hck).mono ?_)
    rintro e wc ⟨rfl, hEc⟩
    refine ⟨_, _, rfl, (by simp only [Act.put, zzA, zz0, zzS]; rfl), ?_⟩
    (first | (refine pl_off (a' := ?_) rfl (by rfl) ?_ ?_; rotate_left 1; (· simp only [Act.put, zzA, zz0, zzS]; rfl)) | (refine pl_y (v := ?_) (a' := ?_) rfl (by rfl) ?_ ?_ ?_; rotate_left 2; (· go_simp; with_reducible rfl); (· simp only [Act.put, zzA, zz0, zzS]; rfl)))
    refine wpList_nil ?_
    have hDc := hD27.ext hEc
    obtain ⟨cv, hcv⟩ : ∃ z, cmdG cc = z := ⟨_, rfl⟩
    rw [hcv]
    have HCV := Lib.hid hcv
    clear hcv hck hen bp2
    by_cases hcz : cv = 0
    · subst hcz
      obtain ⟨wF, hrF, BF, hXF⟩ := store_part hDc 0 (cmdA cc a (.slice A9 rows.length c9)) [] [.int .i64 0, .string ⟨#[]⟩, .int .i64 0, .slice none 0 0, .int .u8 0, .int .u8 0, .int .u8 0, .int .u8 0, .int .u8 0, .int .u8 0, .int .u8 0, .int .u8 0, .int .u8 0, .int .u8 0, .int .u8 0, .int .u8 0, .int .u8 0, .int .u8 0, .int .u8 0, .int .u8 0, .int .u8 0, .int .u8 0, .int .u8 0, .int .u8 0, .int .u8 0, .int .u8 0, .int .u8 0, .int .u8 0, .int .u8 0, .int .u8 0, .int .u8 0, .int .u8 0, .int .u8 0, .int .u8 0, .int .u8 0, .int .u8 0, .string ⟨#[]⟩, .string ⟨#[]⟩, .int .i64 0, .slice none 0 0, .int .i64 0, .int .i64 0, .int .i64 0, .string ⟨#[]⟩, .bool false, .int .i64 0, .int .i64 0] [] rfl rfl rfl 32 (by kernel_rfl) (one_cmd _ _ _ hat rfl)
      have BF : Blk wF w.heap.size 32 (cmdA cc a (.slice A9 rows.length c9)) := by simpa using BF
      go_upto_region 14 with fail
      refine wp_region_lit ?_
      refine pl_y (v := ?_) (a' := ?_) rfl (by rfl) ?_ ?_ ?_
      rotate_left 2
      · (refine (run_op_load rfl ?_ ((hl27 _ hEc))).trans ?_; (· rfl); (· with_reducible rfl))
      · simp only [Act.put, zzA, zz0, zzS]; rfl
      refine pl_store (by rfl) rfl (run_op_store rfl ?_ ?_ hrF) ?_
      · rfl
      · rfl
      (first | (refine pl_off (a' := ?_) rfl (by rfl) ?_ ?_; rotate_left 1; (· simp only [Act.put, zzA, zz0, zzS]; rfl)) | (refine pl_y (v := ?_) (a' := ?_) rfl (by rfl) ?_ ?_ ?_; rotate_left 2; (· go_simp; with_reducible rfl); (· simp only [Act.put, zzA, zz0, zzS]; rfl)))
      refine wpList_nil ?_
      go_wp2_with fail
      refine bodyPost_ret (v := .tuple #[.agg (cmdA cc a (.slice A9 rows.length c9)), .int .i64 0]) (results_row_tmp (fn := Tryd.f12) rfl _ wF w.heap.size _ _ _ _ rfl BF Tryd.underlying32 rfl (by kernel_rfl) rfl) rfl ?_
      rw [← HP.out]
      refine getC_full (by unfold getC; rw [HC.out]; simp only [HE.out, HCV.out]; simp) ?_ hRd (Exc.ext (hE27.trans hEc) hXF (Nat.le_refl _))
      have hNc := (hNQ.ext hEc hgw27).exc hXF (by omega) (.inl (Nat.le_refl _)) (Nat.le_trans hgw27 hEc.le)
      have hl1 := hK27.g1
      have hh1 := hK27.g2
      refine ⟨l1, h1, by omega, Nat.le_trans hh1 (Nat.le_trans hEc.le hXF.size), ?_, ?_⟩
      · rw [hgsC, hXF.only (Nat.le_trans hh1 hEc.le) (.inr (by omega)), only_ext hEc hh1]
        exact hK27.gv
      · rw [hrwC]
        exact hNc.split hg12 hgl (Nat.le_trans hgw27 (Nat.le_trans hEc.le hXF.size)) w.heap.size (Nat.le_succ _) (by omega)
    · have hcz' : (cv != 0) = true := by simpa using hcz
      obtain ⟨wF, hrF, BF, hXF⟩ := store_part hDc 0 (cmdA zCmd (.slice none 0 0) (.slice none 0 0)) [] [.int .i64 0, .string ⟨#[]⟩, .int .i64 0, .slice none 0 0, .int .u8 0, .int .u8 0, .int .u8 0, .int .u8 0, .int .u8 0, .int .u8 0, .int .u8 0, .int .u8 0, .int .u8 0, .int .u8 0, .int .u8 0, .int .u8 0, .int .u8 0, .int .u8 0, .int .u8 0, .int .u8 0, .int .u8 0, .int .u8 0, .int .u8 0, .int .u8 0, .int .u8 0, .int .u8 0, .int .u8 0, .int .u8 0, .int .u8 0, .int .u8 0, .int .u8 0, .int .u8 0, .int .u8 0, .int .u8 0, .int .u8 0, .int .u8 0, .string ⟨#[]⟩, .string ⟨#[]⟩, .int .i64 0, .slice none 0 0, .int .i64 0, .int .i64 0, .int .i64 0, .string ⟨#[]⟩, .bool false, .int .i64 0, .int .i64 0] [] rfl rfl rfl 32 (by kernel_rfl) (one_cmd _ _ _ rfl rfl)
      have BF : Blk wF w.heap.size 32 (cmdA zCmd (.slice none 0 0) (.slice none 0 0)) := by simpa using BF
      go_upto_region 13 with fail
      refine wp_region_lit ?_
      iterate 2 (first | (refine pl_off (a' := ?_) rfl (by rfl) ?_ ?_; rotate_left 1; (· simp only [Act.put, zzA, zz0, zzS]; rfl)) | (refine pl_y (v := ?_) (a' := ?_) rfl (by rfl) ?_ ?_ ?_; rotate_left 2; (· go_simp; with_reducible rfl); (· simp only [Act.put, zzA, zz0, zzS]; rfl)))
      refine pl_store (by rfl) rfl (run_op_store rfl ?_ ?_ hrF) ?_
      · rfl
      · rfl
      (first | (refine pl_off (a' := ?_) rfl (by rfl) ?_ ?_; rotate_left 1; (· simp only [Act.put, zzA, zz0, zzS]; rfl)) | (refine pl_y (v := ?_) (a' := ?_) rfl (by rfl) ?_ ?_ ?_; rotate_left 2; (· go_simp; with_reducible rfl); (· simp only [Act.put, zzA, zz0, zzS]; rfl)))
      refine wpList_nil ?_
      go_wp2_with fail
      refine bodyPost_ret (v := .tuple #[.agg (cmdA zCmd (.slice none 0 0) (.slice none 0 0)), .int .i64 cv]) (results_row_tmp (fn := Tryd.f12) rfl _ wF w.heap.size _ _ _ _ rfl BF Tryd.underlying32 rfl (by kernel_rfl) rfl) rfl ?_
      rw [← HP.out]
      exact getC_zero (by unfold getC; rw [HC.out]; simp only [HE.out, HCV.out]; simp [hcz]) (Exc.ext (hE27.trans hEc) hXF (Nat.le_refl _))
  · have he' : (ev != 0) = true := by simpa using he
    have he2 : (ev == 0) = false := by simpa using he
    go_upto_region 10 with (go_at_call 45; (with_reducible refine hen.mono ?_); rintro e w9 ⟨rfl, rfl⟩)
    obtain ⟨wF, hrF, BF, hXF⟩ := store_part hD27 0 (cmdA zCmd (.slice none 0 0) (.slice none 0 0)) [] [.int .i64 0, .string ⟨#[]⟩, .int .i64 0, .slice none 0 0, .int .u8 0, .int .u8 0, .int .u8 0, .int .u8 0, .int .u8 0, .int .u8 0, .int .u8 0, .int .u8 0, .int .u8 0, .int .u8 0, .int .u8 0, .int .u8 0, .int .u8 0, .int .u8 0, .int .u8 0, .int .u8 0, .int .u8 0, .int .u8 0, .int .u8 0, .int .u8 0, .int .u8 0, .int .u8 0, .int .u8 0, .int .u8 0, .int .u8 0, .int .u8 0, .int .u8 0, .int .u8 0, .int .u8 0, .int .u8 0, .int .u8 0, .int .u8 0, .string ⟨#[]⟩, .string ⟨#[]⟩, .int .i64 0, .slice none 0 0, .int .i64 0, .int .i64 0, .int .i64 0, .string ⟨#[]⟩, .bool false, .int .i64 0, .int .i64 0] [] rfl rfl rfl 32 (by kernel_rfl) (one_cmd _ _ _ rfl rfl)
    have BF : Blk wF w.heap.size 32 (cmdA zCmd (.slice none 0 0) (.slice none 0 0)) := by simpa using BF
    go_upto_region 13 with fail
    refine wp_region_lit ?_
    iterate 2 (first | (refine pl_off (a' := ?_) rfl (by rfl) ?_ ?_; rotate_left 1; (· simp only [Act.put, zzA, zz0, zzS]; rfl)) | (refine pl_y (v := ?_) (a' := ?_) rfl (by rfl) ?_ ?_ ?_; rotate_left 2; (· go_simp; with_reducible rfl); (· simp only [Act.put, zzA, zz0, zzS]; rfl)))
    refine pl_store (by rfl) rfl (run_op_store rfl ?_ ?_ hrF) ?_
    · rfl
    · rfl
    (first | (refine pl_off (a' := ?_) rfl (by rfl) ?_ ?_; rotate_left 1; (· simp only [Act.put, zzA, zz0, zzS]; rfl)) | (refine pl_y (v := ?_) (a' := ?_) rfl (by rfl) ?_ ?_ ?_; rotate_left 2; (· go_simp; with_reducible rfl); (· simp only [Act.put, zzA, zz0, zzS]; rfl)))
    refine wpList_nil ?_
    go_wp2_with fail
    refine bodyPost_ret (v := .tuple #[.agg (cmdA zCmd (.slice none 0 0) (.slice none 0 0)), .int .i64 ev]) (results_row_tmp (fn := Tryd.f12) rfl _ wF w.heap.size _ _ _ _ rfl BF Tryd.underlying32 rfl (by kernel_rfl) rfl) rfl ?_
    rw [← HP.out]
    exact getC_zero (by unfold getC; rw [HC.out]; simp only [HE.out]; simp [he]) (Exc.ext hE27 hXF (Nat.le_refl _))
end Go.Proofs.YtgfhbachgniipaaDoor
