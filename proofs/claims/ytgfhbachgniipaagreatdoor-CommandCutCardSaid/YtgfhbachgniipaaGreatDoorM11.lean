/- An answer's rows read, by the program. (and what follows) -/
import Derived.Test.YtgfhbachgniipaaGreatDoorMz
import Derived.Test.YtgfhbachgniipaaGreatDoorM10
import Derived.Test.YtgfhbachgniipaaGreatDoorM6
set_option linter.unusedVariables false
set_option linter.unusedSimpArgs false
namespace Go.Proofs.YtgfhbachgniipaaGreatDoor
open Go.RowKit
structure PSt (W0 w : World) (lo g p : Nat) (s : St) : Prop where
  rd : RdrS w lo g s
  rp : Blk w p 116 #[.pointer (some ⟨g, 0, none⟩)]
  gp : g < p
  xe : Exc g (g + 1) W0 w
structure RSt (W0 w : World) (lo g p h : Nat) (T : TypeId) (cs : Array Value) (s : St) : Prop where
  rd : RdrS w lo g s
  rp : Blk w p 116 #[.pointer (some ⟨g, 0, none⟩)]
  rs : Blk w h T cs
  gp : g < p
  ph : p < h
  xe : Exc g (g + 1) W0 w
section
variable {W0 w w' : World} {lo g p h : Nat} {T : TypeId} {cs : Array Value} {s s' : St}
theorem PSt.exc (k : PSt W0 w lo g p s) (hR : RdrS w' lo g s') (hX : Exc g (g + 1) w w') : PSt W0 w' lo g p s' :=
  ⟨hR, hX.blk k.rp (.inr k.gp), k.gp, k.xe.trans hX⟩
theorem PSt.drew (k : PSt W0 w lo g p s) : PSt W0 w.drew lo g p s := ⟨RdrAt.ext k.rd (Ext.drew (Ext.refl _)), k.rp, k.gp, k.xe.drew⟩
theorem PSt.box (k : PSt W0 w lo g p s) (T : TypeId) (cs : Array Value) : RSt W0 (w.alloc (.cells cs T)) lo g p w.heap.size T cs s :=
  ⟨RdrAt.ext k.rd ((Ext.refl _).alloc _), k.rp.ext ((Ext.refl _).alloc _), Blk.new _ _ _, k.gp, k.rp.lt, k.xe.trans (Ext.exc ((Ext.refl _).alloc _))⟩
theorem RSt.exc (k : RSt W0 w lo g p h T cs s) (hR : RdrS w' lo g s') (hX : Exc g (g + 1) w w') : RSt W0 w' lo g p h T cs s' :=
  ⟨hR, hX.blk k.rp (.inr k.gp), hX.blk k.rs (.inr (by have := k.gp; have := k.ph; omega)), k.gp, k.ph, k.xe.trans hX⟩
theorem RSt.drew (k : RSt W0 w lo g p h T cs s) : RSt W0 w.drew lo g p h T cs s := ⟨RdrAt.ext k.rd (Ext.drew (Ext.refl _)), k.rp, k.rs, k.gp, k.ph, k.xe.drew⟩
end
set_option maxHeartbeats 1000000 in
set_option maxRecDepth 100000 in
theorem code_rd {w : World} {lo g : Nat} {s : St} (hR : RdrS w lo g s) : Calls Tryz.prog 102 #[.agg #[.pointer (some ⟨g, 0, none⟩)]] w fun e w' => ∃ x s', intS s = (x, s') ∧ (-9223372036854775808 ≤ x ∧ x ≤ 9223372036854775807) ∧ e = .returned (.int .i64 x) ∧ RdrS w' lo g s' ∧ Exc g (g + 1) w w' := by
  obtain ⟨W, hW, hE, bx⟩ := box1 w #[.pointer (some ⟨g, 0, none⟩)] 116
  have x0 : W.cell? ⟨w.heap.size, 0, none⟩ = some (.pointer (some ⟨g, 0, none⟩)) := bx 0 _ rfl
  have ht := int_S (RdrAt.ext hR hE : RdrS W lo g s)
  clear bx
  go_enter Tryz.func102, Tryz.ntmps102
  go_upto_region 1 with fail
  rw [← hW]
  clear hW
  go_wp2_with (go_at_call 87; (with_reducible refine ht.mono ?_); rintro e w1 ⟨x, s1, hp, hxs, rfl, hR1, hX1⟩; have HP := Lib.hid hp; clear hp)
  go_ret
  exact ⟨x, s1, HP.out, hxs, rfl, hR1, (Ext.exc hE).trans hX1⟩
theorem fold_list (c : Nat) : ∀ (D : List Value) (k : Nat) (pre old post : List Value), old.length = D.length → pre.length = c + k → (D.zipIdx k).foldl (fun (cs : Array Value) (x : Value × Nat) => cs.setIfInBounds (c + x.2) x.1) (pre ++ old ++ post).toArray = (pre ++ D ++ post).toArray
  | [], k, pre, old, post, h, hp => by
    obtain rfl := List.eq_nil_of_length_eq_zero h
    rfl
  | v :: D, k, pre, [], post, h, hp => by simp at h
  | v :: D, k, pre, d :: old, post, h, hp => by
    rw [List.zipIdx_cons, List.foldl_cons]
    have e : (pre ++ d :: old ++ post).toArray.setIfInBounds (c + k) v = ((pre ++ [v]) ++ old ++ post).toArray := by
      rw [← hp, List.setIfInBounds_toArray]
      congr 1
      simp [List.set_append]
    simp only
    rw [e, fold_list c D (k + 1) (pre ++ [v]) old post (by simpa using h) (by simp; omega)]
    simp
theorem fold_at {M : Array Value} {n : Nat} (hM : M.size = n) (pre old post : List Value) (h : old.length = n) : Array.foldl (fun (cs : Array Value) (x : Value × Nat) => cs.setIfInBounds (pre.length + x.snd) x.fst) (pre ++ old ++ post).toArray M.zipIdx 0 n = (pre ++ M.toList ++ post).toArray := by
  subst hM
  have := fold_list pre.length M.toList 0 pre old post (by simpa using h) rfl
  rw [← this, ← Array.toList_zipIdx, Array.foldl_toList, Array.size_zipIdx]
theorem sh_step {s0 s1 s2 s3 s4 s5 s6 : St} {x y : ByteArray} {v p c : Int} {b : List UInt8} (h1 : textS 24 s0 = (x, s1)) (h2 : textS 24 s1 = (y, s2)) (h3 : intS s2 = (v, s3)) (h4 : intS s3 = (p, s4)) (h5 : intS s4 = (c, s5)) (h6 : blobS 256 s5 = (b, s6)) : shS s0 = (⟨x, y, v, p, c, b⟩, s6) := by
  unfold shS shP pairS
  simp only [h1, h2, h3, h4, h5, h6]
theorem en_step {s0 s1 s2 s3 s4 s5 s6 s7 s8 : St} {a b c d i : Int} {x y : ByteArray} {z : List UInt8} (h1 : intS s0 = (a, s1)) (h2 : intS s1 = (b, s2)) (h3 : intS s2 = (c, s3)) (h4 : intS s3 = (d, s4)) (h5 : intS s4 = (i, s5)) (h6 : textS 24 s5 = (x, s6)) (h7 : textS 24 s6 = (y, s7)) (h8 : sumS s7 = (z, s8)) : enS s0 = (⟨a, b, c, d, i, x, y, z⟩, s8) := by
  unfold enS enP pairS
  simp only [h1, h2, h3, h4, h5, h6, h7, h8]
set_option maxHeartbeats 9000000 in
set_option maxRecDepth 100000 in
theorem getH_any {w : World} {lo g p : Nat} {s : St} (hR : RdrS w lo g s) (rp : Blk w p 116 #[.pointer (some ⟨g, 0, none⟩)]) (hgp : g < p) :
    Calls Tryz.prog 104 #[.pointer (some ⟨p, 0, none⟩)] w fun e w' => ∃ x s' u, shS s = (x, s') ∧ shOk x ∧ e = .returned (.agg (shA x u)) ∧ YsV (only w' lo g) x.body u ∧ RdrS w' lo g s' ∧ Exc g (g + 1) w w' := by
  obtain ⟨P, hP⟩ : ∃ P : Ending → World → Prop, (fun e w' => ∃ x s' u, shS s = (x, s') ∧ shOk x ∧ e = .returned (.agg (shA x u)) ∧ YsV (only w' lo g) x.body u ∧ RdrS w' lo g s' ∧ Exc g (g + 1) w w') = P := ⟨_, rfl⟩
  rw [hP]
  have HP := Lib.hid hP
  obtain ⟨W, hW, hE, -⟩ := box1 w #[.string ⟨#[]⟩, .string ⟨#[]⟩, .int .i64 0, .int .i64 0, .int .i64 0, .slice none 0 0] 70
  have B : Blk W w.heap.size 70 #[.string ⟨#[]⟩, .string ⟨#[]⟩, .int .i64 0, .int .i64 0, .int .i64 0, .slice none 0 0] := by rw [hW]; exact Blk.new _ _ _
  have hK0 : RSt W W lo g p w.heap.size 70 #[.string ⟨#[]⟩, .string ⟨#[]⟩, .int .i64 0, .int .i64 0, .int .i64 0, .slice none 0 0] s := ⟨RdrAt.ext hR hE, rp.ext hE, B, hgp, rp.lt, Exc.refl _ _ _⟩
  have hgl : g < w.heap.size := hR.lt
  clear hP hR B
  have rp := fun (w' : World) (h : Blk w' p 116 #[.pointer (some ⟨g, 0, none⟩)]) => h.cell 0 (v := .pointer (some ⟨g, 0, none⟩)) rfl
  go_enter Tryz.func104, Tryz.ntmps104
  go_upto_region 1 with fail
  rw [← hW]
  clear hW
  refine wp_region_noPanic ?_
  refine tr_start (.y 0 (.y 2 (.y 4 (.y 5 (.y 7 (.y 8 (.y 10 (.y 12 (.y 13 (.e 1 (.e 3 (.e 6 (.e 9 (.e 11 (.e 14 (.y 15 (.e 16 .nil))))))))))))))))) (fun w' => Blk w' p 116 #[.pointer (some ⟨g, 0, none⟩)]) (by kernel_rfl) (by as_aux_lemma => kernel_rfl) (fun _ _ _ _ _ h => h) (hK0.drew.rp) ?_
  iterate 9 (first | (refine tr_off (a' := ?_) rfl rfl (by rfl) ?_ ?_; rotate_left 1; (· simp only [Act.put, zzA, zz0, zzS]; rfl)) | (refine tr_y (v := ?_) (a' := ?_) rfl rfl (by rfl) (fun w' hw' => ?_) ?_ ?_; rotate_left 2; (· go_simp; with_reducible rfl); (· simp only [Act.put, zzA, zz0, zzS]; rfl)))
  have hK1 := hK0.drew
  generalize W.drew = wd at hK1 ⊢
  refine tr_call (args := ?_) rfl Tryz.func89 (by kernel_rfl) rfl (by rfl) rfl rfl ?_ ?_
  rotate_left 1
  · go_simp; rfl
  (with_reducible refine (name_rd hK1.rd).mono ?_)
  rintro e w1 ⟨x1, s1, hp1, hz1, rfl, hR3, hX3⟩
  refine ⟨_, _, rfl, (hK1).exc hR3 hX3 |>.rp, (by simp only [Act.put, zzA, zz0, zzS]; rfl), ?_⟩
  have HP1 := Lib.hid hp1
  have hK2 := (hK1).exc hR3 hX3
  clear hp1 hR3 hX3
  refine tr_call (args := ?_) rfl Tryz.func89 (by kernel_rfl) rfl (by rfl) rfl rfl ?_ ?_
  rotate_left 1
  · go_simp; rfl
  (with_reducible refine (name_rd hK2.rd).mono ?_)
  rintro e w2 ⟨x2, s2, hp2, hz2, rfl, hR3, hX3⟩
  refine ⟨_, _, rfl, (hK2).exc hR3 hX3 |>.rp, (by simp only [Act.put, zzA, zz0, zzS]; rfl), ?_⟩
  have HP2 := Lib.hid hp2
  have hK3 := (hK2).exc hR3 hX3
  clear hp2 hR3 hX3
  refine tr_call (args := ?_) rfl Tryz.func87 (by kernel_rfl) rfl (by rfl) rfl rfl ?_ ?_
  rotate_left 1
  · go_simp; rfl
  (with_reducible refine (int_S hK3.rd).mono ?_)
  rintro e w3 ⟨x3, s3, hp3, hz3, rfl, hR3, hX3⟩
  refine ⟨_, _, rfl, (hK3).exc hR3 hX3 |>.rp, (by simp only [Act.put, zzA, zz0, zzS]; rfl), ?_⟩
  have HP3 := Lib.hid hp3
  have hK4 := (hK3).exc hR3 hX3
  clear hp3 hR3 hX3
  refine tr_call (args := ?_) rfl Tryz.func87 (by kernel_rfl) rfl (by rfl) rfl rfl ?_ ?_
  rotate_left 1
  · go_simp; rfl
  (with_reducible refine (int_S hK4.rd).mono ?_)
  rintro e w4 ⟨x4, s4, hp4, hz4, rfl, hR3, hX3⟩
  refine ⟨_, _, rfl, (hK4).exc hR3 hX3 |>.rp, (by simp only [Act.put, zzA, zz0, zzS]; rfl), ?_⟩
  have HP4 := Lib.hid hp4
  have hK5 := (hK4).exc hR3 hX3
  clear hp4 hR3 hX3
  refine tr_call (args := ?_) rfl Tryz.func102 (by kernel_rfl) rfl (by rfl) rfl rfl ?_ ?_
  rotate_left 1
  · go_simp; rfl
  (with_reducible refine (code_rd hK5.rd).mono ?_)
  rintro e w5 ⟨x5, s5, hp5, hz5, rfl, hR3, hX3⟩
  refine ⟨_, _, rfl, (hK5).exc hR3 hX3 |>.rp, (by simp only [Act.put, zzA, zz0, zzS]; rfl), ?_⟩
  have HP5 := Lib.hid hp5
  have hK6 := (hK5).exc hR3 hX3
  clear hp5 hR3 hX3
  have hbl := blob_S hK6.rd 256 (by decide)
  rw [show ((256 : Nat) : Int) = 256 from rfl] at hbl
  refine tr_call (args := ?_) rfl Tryz.func92 (by kernel_rfl) rfl (by rfl) rfl rfl ?_ ?_
  rotate_left 1
  · go_simp; rfl
  (with_reducible refine (hbl).mono ?_)
  rintro e w6 ⟨A, n, c, x6, s6, hp6, hn6, hz6, rfl, h6c, h6S, hR3, hX3⟩
  refine ⟨_, _, rfl, hK6.exc hR3 hX3 |>.rp, (by simp only [Act.put, zzA, zz0, zzS]; rfl), ?_⟩
  iterate 1 (first | (refine tr_off (a' := ?_) rfl rfl (by rfl) ?_ ?_; rotate_left 1; (· simp only [Act.put, zzA, zz0, zzS]; rfl)) | (refine tr_y (v := ?_) (a' := ?_) rfl rfl (by rfl) (fun w' hw' => ?_) ?_ ?_; rotate_left 2; (· go_simp; with_reducible rfl); (· simp only [Act.put, zzA, zz0, zzS]; rfl)))
  have hK7 := hK6.exc hR3 hX3
  have HS := Lib.hid (sh_step HP1.out HP2.out HP3.out HP4.out HP5.out hp6)
  have hfit : shOk ⟨x1, x2, x3, x4, x5, x6⟩ := ⟨hz1, hz2, hz3, hz4, hz5, by rw [hn6]; exact hz6⟩
  have hY : YsV (only w6 lo g) x6 (.slice A n c) := ⟨A, c, by rw [hn6], by rw [hn6]; exact h6c, by rw [hn6]; exact h6S⟩
  obtain ⟨wF, hrF, BF, hXF⟩ := store_part hK7.rs 0 (shA ⟨x1, x2, x3, x4, x5, x6⟩ (.slice A n c)) [] [.string ⟨#[]⟩, .string ⟨#[]⟩, .int .i64 0, .int .i64 0, .int .i64 0, .slice none 0 0] [] rfl rfl rfl 70 (by kernel_rfl) (one_shA _ _ rfl)
  have BF : Blk wF w.heap.size 70 (shA ⟨x1, x2, x3, x4, x5, x6⟩ (.slice A n c)) := by simpa using BF
  clear hK0 hK1 hK2 hK3 hK4 hK5 hK6 hp6 hR3 hX3 hbl h6S h6c hn6
  refine tr_last (w1 := wF) rfl (by rfl) rfl (by kernel_rfl) (run_op_store rfl ?_ ?_ hrF) ?_
  · rfl
  · rfl
  refine NoPanic.normal ?_
  go_wp2_with fail
  refine bodyPost_ret (v := .agg (shA ⟨x1, x2, x3, x4, x5, x6⟩ (.slice A n c))) (results_cell_row (P := Tryz.prog) (fn := Tryz.f104) rfl _ wF w.heap.size _ _ _ _ rfl BF Tryz.underlying70 rfl (by kernel_rfl)) rfl ?_
  rw [← HP.out]
  refine ⟨_, s6, _, HS.out, hfit, rfl, ?_, RdrAt.exc hK7.rd hXF (.inl hgl), ((Ext.exc hE).trans hK7.xe).above hXF (Nat.le_refl _)⟩
  rw [hXF.only (by have := hK7.rs.lt; omega) (.inl (by omega))]
  exact hY
set_option maxHeartbeats 9000000 in
set_option maxRecDepth 100000 in
theorem getE_any {w : World} {lo g p : Nat} {s : St} (hR : RdrS w lo g s) (rp : Blk w p 116 #[.pointer (some ⟨g, 0, none⟩)]) (hgp : g < p) :
    Calls Tryz.prog 106 #[.pointer (some ⟨p, 0, none⟩)] w fun e w' => ∃ x s', enS s = (x, s') ∧ enOk x ∧ e = .returned (.agg (enA x)) ∧ RdrS w' lo g s' ∧ Exc g (g + 1) w w' := by
  obtain ⟨P, hP⟩ : ∃ P : Ending → World → Prop, (fun e w' => ∃ x s', enS s = (x, s') ∧ enOk x ∧ e = .returned (.agg (enA x)) ∧ RdrS w' lo g s' ∧ Exc g (g + 1) w w') = P := ⟨_, rfl⟩
  rw [hP]
  have HP := Lib.hid hP
  obtain ⟨W, hW, hE, -⟩ := box1 w #[.int .i64 0, .int .i64 0, .int .i64 0, .int .i64 0, .int .i64 0, .string ⟨#[]⟩, .string ⟨#[]⟩, .int .u8 0, .int .u8 0, .int .u8 0, .int .u8 0, .int .u8 0, .int .u8 0, .int .u8 0, .int .u8 0, .int .u8 0, .int .u8 0, .int .u8 0, .int .u8 0, .int .u8 0, .int .u8 0, .int .u8 0, .int .u8 0, .int .u8 0, .int .u8 0, .int .u8 0, .int .u8 0, .int .u8 0, .int .u8 0, .int .u8 0, .int .u8 0, .int .u8 0, .int .u8 0, .int .u8 0, .int .u8 0, .int .u8 0, .int .u8 0, .int .u8 0, .int .u8 0] 72
  have B : Blk W w.heap.size 72 #[.int .i64 0, .int .i64 0, .int .i64 0, .int .i64 0, .int .i64 0, .string ⟨#[]⟩, .string ⟨#[]⟩, .int .u8 0, .int .u8 0, .int .u8 0, .int .u8 0, .int .u8 0, .int .u8 0, .int .u8 0, .int .u8 0, .int .u8 0, .int .u8 0, .int .u8 0, .int .u8 0, .int .u8 0, .int .u8 0, .int .u8 0, .int .u8 0, .int .u8 0, .int .u8 0, .int .u8 0, .int .u8 0, .int .u8 0, .int .u8 0, .int .u8 0, .int .u8 0, .int .u8 0, .int .u8 0, .int .u8 0, .int .u8 0, .int .u8 0, .int .u8 0, .int .u8 0, .int .u8 0] := by rw [hW]; exact Blk.new _ _ _
  have hK0 : RSt W W lo g p w.heap.size 72 #[.int .i64 0, .int .i64 0, .int .i64 0, .int .i64 0, .int .i64 0, .string ⟨#[]⟩, .string ⟨#[]⟩, .int .u8 0, .int .u8 0, .int .u8 0, .int .u8 0, .int .u8 0, .int .u8 0, .int .u8 0, .int .u8 0, .int .u8 0, .int .u8 0, .int .u8 0, .int .u8 0, .int .u8 0, .int .u8 0, .int .u8 0, .int .u8 0, .int .u8 0, .int .u8 0, .int .u8 0, .int .u8 0, .int .u8 0, .int .u8 0, .int .u8 0, .int .u8 0, .int .u8 0, .int .u8 0, .int .u8 0, .int .u8 0, .int .u8 0, .int .u8 0, .int .u8 0, .int .u8 0] s := ⟨RdrAt.ext hR hE, rp.ext hE, B, hgp, rp.lt, Exc.refl _ _ _⟩
  have hgl : g < w.heap.size := hR.lt
  clear hP hR B
  have rp := fun (w' : World) (h : Blk w' p 116 #[.pointer (some ⟨g, 0, none⟩)]) => h.cell 0 (v := .pointer (some ⟨g, 0, none⟩)) rfl
  go_enter Tryz.func106, Tryz.ntmps106
  go_upto_region 1 with fail
  rw [← hW]
  clear hW
  refine wp_region_noPanic ?_
  refine tr_start (.y 0 (.y 1 (.y 3 (.y 4 (.y 6 (.y 7 (.y 9 (.y 11 (.y 12 (.y 14 (.y 16 (.y 18 (.y 19 (.e 2 (.e 5 (.e 8 (.e 10 (.e 13 (.e 15 (.e 17 (.e 20 (.y 21 (.e 22 .nil))))))))))))))))))))))) (fun w' => Blk w' p 116 #[.pointer (some ⟨g, 0, none⟩)]) (by kernel_rfl) (by as_aux_lemma => kernel_rfl) (fun _ _ _ _ _ h => h) (hK0.drew.rp) ?_
  iterate 13 (first | (refine tr_off (a' := ?_) rfl rfl (by rfl) ?_ ?_; rotate_left 1; (· simp only [Act.put, zzA, zz0, zzS]; rfl)) | (refine tr_y (v := ?_) (a' := ?_) rfl rfl (by rfl) (fun w' hw' => ?_) ?_ ?_; rotate_left 2; (· go_simp; with_reducible rfl); (· simp only [Act.put, zzA, zz0, zzS]; rfl)))
  have hK1 := hK0.drew
  generalize W.drew = wd at hK1 ⊢
  refine tr_call (args := ?_) rfl Tryz.func87 (by kernel_rfl) rfl (by rfl) rfl rfl ?_ ?_
  rotate_left 1
  · go_simp; rfl
  (with_reducible refine (int_S hK1.rd).mono ?_)
  rintro e w1 ⟨x1, s1, hp1, hz1, rfl, hR3, hX3⟩
  refine ⟨_, _, rfl, (hK1).exc hR3 hX3 |>.rp, (by simp only [Act.put, zzA, zz0, zzS]; rfl), ?_⟩
  have HP1 := Lib.hid hp1
  have hK2 := (hK1).exc hR3 hX3
  clear hp1 hR3 hX3
  refine tr_call (args := ?_) rfl Tryz.func87 (by kernel_rfl) rfl (by rfl) rfl rfl ?_ ?_
  rotate_left 1
  · go_simp; rfl
  (with_reducible refine (int_S hK2.rd).mono ?_)
  rintro e w2 ⟨x2, s2, hp2, hz2, rfl, hR3, hX3⟩
  refine ⟨_, _, rfl, (hK2).exc hR3 hX3 |>.rp, (by simp only [Act.put, zzA, zz0, zzS]; rfl), ?_⟩
  have HP2 := Lib.hid hp2
  have hK3 := (hK2).exc hR3 hX3
  clear hp2 hR3 hX3
  refine tr_call (args := ?_) rfl Tryz.func87 (by kernel_rfl) rfl (by rfl) rfl rfl ?_ ?_
  rotate_left 1
  · go_simp; rfl
  (with_reducible refine (int_S hK3.rd).mono ?_)
  rintro e w3 ⟨x3, s3, hp3, hz3, rfl, hR3, hX3⟩
  refine ⟨_, _, rfl, (hK3).exc hR3 hX3 |>.rp, (by simp only [Act.put, zzA, zz0, zzS]; rfl), ?_⟩
  have HP3 := Lib.hid hp3
  have hK4 := (hK3).exc hR3 hX3
  clear hp3 hR3 hX3
  refine tr_call (args := ?_) rfl Tryz.func102 (by kernel_rfl) rfl (by rfl) rfl rfl ?_ ?_
  rotate_left 1
  · go_simp; rfl
  (with_reducible refine (code_rd hK4.rd).mono ?_)
  rintro e w4 ⟨x4, s4, hp4, hz4, rfl, hR3, hX3⟩
  refine ⟨_, _, rfl, (hK4).exc hR3 hX3 |>.rp, (by simp only [Act.put, zzA, zz0, zzS]; rfl), ?_⟩
  have HP4 := Lib.hid hp4
  have hK5 := (hK4).exc hR3 hX3
  clear hp4 hR3 hX3
  refine tr_call (args := ?_) rfl Tryz.func87 (by kernel_rfl) rfl (by rfl) rfl rfl ?_ ?_
  rotate_left 1
  · go_simp; rfl
  (with_reducible refine (int_S hK5.rd).mono ?_)
  rintro e w5 ⟨x5, s5, hp5, hz5, rfl, hR3, hX3⟩
  refine ⟨_, _, rfl, (hK5).exc hR3 hX3 |>.rp, (by simp only [Act.put, zzA, zz0, zzS]; rfl), ?_⟩
  have HP5 := Lib.hid hp5
  have hK6 := (hK5).exc hR3 hX3
  clear hp5 hR3 hX3
  refine tr_call (args := ?_) rfl Tryz.func89 (by kernel_rfl) rfl (by rfl) rfl rfl ?_ ?_
  rotate_left 1
  · go_simp; rfl
  (with_reducible refine (name_rd hK6.rd).mono ?_)
  rintro e w6 ⟨x6, s6, hp6, hz6, rfl, hR3, hX3⟩
  refine ⟨_, _, rfl, (hK6).exc hR3 hX3 |>.rp, (by simp only [Act.put, zzA, zz0, zzS]; rfl), ?_⟩
  have HP6 := Lib.hid hp6
  have hK7 := (hK6).exc hR3 hX3
  clear hp6 hR3 hX3
  refine tr_call (args := ?_) rfl Tryz.func89 (by kernel_rfl) rfl (by rfl) rfl rfl ?_ ?_
  rotate_left 1
  · go_simp; rfl
  (with_reducible refine (name_rd hK7.rd).mono ?_)
  rintro e w7 ⟨x7, s7, hp7, hz7, rfl, hR3, hX3⟩
  refine ⟨_, _, rfl, (hK7).exc hR3 hX3 |>.rp, (by simp only [Act.put, zzA, zz0, zzS]; rfl), ?_⟩
  have HP7 := Lib.hid hp7
  have hK8 := (hK7).exc hR3 hX3
  clear hp7 hR3 hX3
  have hsm := sum_S hK8.rd
  unfold SumP at hsm
  have hsm := hsm.mono (R' := fun e w' => ∃ x s' M E, sumS s7 = (x, s') ∧ x.length = 32 ∧ e = .returned (.agg M) ∧ M.size = 32 ∧ Array.foldl (fun (cs : Array Value) (x : Value × Nat) => cs.setIfInBounds (7 + x.snd) x.fst) #[.int .i64 x1, .int .i64 x2, .int .i64 x3, .int .i64 x4, .int .i64 x5, .string x6, .string x7, .int .u8 0, .int .u8 0, .int .u8 0, .int .u8 0, .int .u8 0, .int .u8 0, .int .u8 0, .int .u8 0, .int .u8 0, .int .u8 0, .int .u8 0, .int .u8 0, .int .u8 0, .int .u8 0, .int .u8 0, .int .u8 0, .int .u8 0, .int .u8 0, .int .u8 0, .int .u8 0, .int .u8 0, .int .u8 0, .int .u8 0, .int .u8 0, .int .u8 0, .int .u8 0, .int .u8 0, .int .u8 0, .int .u8 0, .int .u8 0, .int .u8 0, .int .u8 0] M.zipIdx 0 32 = E ∧ Hid (E = enA ⟨x1, x2, x3, x4, x5, x6, x7, x⟩) ∧ RdrS w' lo g s' ∧ Exc g (g + 1) w7 w') (by
    rintro e w' ⟨x, s', h1, h2, rfl, h3, h4⟩
    exact ⟨x, s', macA x, _, h1, h2, rfl, rfl, rfl, Lib.hid (fold_at (M := macA x) (n := 32) rfl [.int .i64 x1, .int .i64 x2, .int .i64 x3, .int .i64 x4, .int .i64 x5, .string x6, .string x7] [.int .u8 0, .int .u8 0, .int .u8 0, .int .u8 0, .int .u8 0, .int .u8 0, .int .u8 0, .int .u8 0, .int .u8 0, .int .u8 0, .int .u8 0, .int .u8 0, .int .u8 0, .int .u8 0, .int .u8 0, .int .u8 0, .int .u8 0, .int .u8 0, .int .u8 0, .int .u8 0, .int .u8 0, .int .u8 0, .int .u8 0, .int .u8 0, .int .u8 0, .int .u8 0, .int .u8 0, .int .u8 0, .int .u8 0, .int .u8 0, .int .u8 0, .int .u8 0] [] rfl), h3, h4⟩)
  refine tr_call (args := ?_) rfl Tryz.func107 (by kernel_rfl) rfl (by rfl) rfl rfl ?_ ?_
  rotate_left 1
  · go_simp; rfl
  (with_reducible refine (hsm).mono ?_)
  rintro e w8 ⟨x8, s8, M, E, hp8, hz8, rfl, hM, hfo, HE, hR3, hX3⟩
  refine ⟨_, _, rfl, hK8.exc hR3 hX3 |>.rp, (by simp only [Act.put, zzA, zz0, zzS]; rfl), ?_⟩
  iterate 1 (first | (refine tr_off (a' := ?_) rfl rfl (by rfl) ?_ ?_; rotate_left 1; (· simp only [Act.put, zzA, zz0, zzS]; rfl)) | (refine tr_y (v := ?_) (a' := ?_) rfl rfl (by rfl) (fun w' hw' => ?_) ?_ ?_; rotate_left 2; (· go_simp; with_reducible rfl); (· simp only [Act.put, zzA, zz0, zzS]; rfl)))
  have HP8 := Lib.hid hp8
  have hK9 := hK8.exc hR3 hX3
  obtain rfl := HE.out
  clear hp8 hfo hM
  have HS := Lib.hid (en_step HP1.out HP2.out HP3.out HP4.out HP5.out HP6.out HP7.out HP8.out)
  have hfit : enOk ⟨x1, x2, x3, x4, x5, x6, x7, x8⟩ := ⟨hz1, hz2, hz3, hz4, hz5, hz6, hz7, hz8⟩
  obtain ⟨wF, hrF, BF, hXF⟩ := store_part hK9.rs 0 (enA ⟨x1, x2, x3, x4, x5, x6, x7, x8⟩) [] [.int .i64 0, .int .i64 0, .int .i64 0, .int .i64 0, .int .i64 0, .string ⟨#[]⟩, .string ⟨#[]⟩, .int .u8 0, .int .u8 0, .int .u8 0, .int .u8 0, .int .u8 0, .int .u8 0, .int .u8 0, .int .u8 0, .int .u8 0, .int .u8 0, .int .u8 0, .int .u8 0, .int .u8 0, .int .u8 0, .int .u8 0, .int .u8 0, .int .u8 0, .int .u8 0, .int .u8 0, .int .u8 0, .int .u8 0, .int .u8 0, .int .u8 0, .int .u8 0, .int .u8 0, .int .u8 0, .int .u8 0, .int .u8 0, .int .u8 0, .int .u8 0, .int .u8 0, .int .u8 0] [] rfl rfl rfl 72 (by kernel_rfl) (one_enA _)
  have BF : Blk wF w.heap.size 72 (enA ⟨x1, x2, x3, x4, x5, x6, x7, x8⟩) := by simpa using BF
  clear hK0 hK1 hK2 hK3 hK4 hK5 hK6 hK7 hsm
  refine tr_last (w1 := wF) rfl (by rfl) rfl (by kernel_rfl) (run_op_store rfl ?_ ?_ hrF) ?_
  · rfl
  · rfl
  refine NoPanic.normal ?_
  go_wp2_with fail
  refine bodyPost_ret (v := .agg (enA ⟨x1, x2, x3, x4, x5, x6, x7, x8⟩)) (results_cell_row (P := Tryz.prog) (fn := Tryz.f106) rfl _ wF w.heap.size _ _ _ _ rfl BF Tryz.underlying72 rfl (by kernel_rfl)) rfl ?_
  rw [← HP.out]
  exact ⟨_, s8, HS.out, hfit, rfl, RdrAt.exc hK9.rd hXF (.inl hgl), ((Ext.exc hE).trans hK9.xe).above hXF (Nat.le_refl _)⟩
end Go.Proofs.YtgfhbachgniipaaGreatDoor

namespace Go.Proofs.YtgfhbachgniipaaGreatDoor
open Go.RowKit
def HowQ (w : World) (base lo g : Nat) (l : List Shn) (b : Value) : Prop := ∃ us : List Value, us.length = l.length ∧ w.ownsRow base 70 6 b l.length (shRows (l.zip us)) ∧ ∀ q ∈ l.zip us, YsV (only w lo g) q.1.body q.2
def EowQ (w : World) (base : Nat) (l : List Ent) (b : Value) : Prop := w.ownsRow base 72 39 b l.length (l.flatMap fun x => (enA x).toList)
section
variable {w w' : World} {base lo g l h : Nat} {L : List Shn} {b : Value}
theorem HowQ.exc (k : HowQ w base lo g L b) (hX : Exc l h w w') (h1 : h ≤ base) (h2 : g ≤ l ∨ h ≤ lo) (h3 : g ≤ w.heap.size) : HowQ w' base lo g L b := by
  obtain ⟨us, h4, h5, h6⟩ := k
  refine ⟨us, h4, own_excB h5 hX h1, fun q hq => ?_⟩
  rw [hX.only h3 h2]
  exact h6 q hq
theorem HowQ.ext (k : HowQ w base lo g L b) (hE : Ext w w') (h3 : g ≤ w.heap.size) : HowQ w' base lo g L b :=
  k.exc (l := 0) (h := 0) hE.exc (Nat.zero_le _) (.inr (Nat.zero_le _)) h3
theorem HowQ.val (k : HowQ w base lo g L b) : ∃ A c, b = .slice A L.length c := by
  obtain ⟨us, -, h5, -⟩ := k
  exact own_val' h5
theorem HowQ.at_ (k : HowQ w base lo g L b) (H : Nat) (hl : H ≤ lo) (hb : H ≤ base) (hg : g ≤ w.heap.size) : HsV (only w H w.heap.size) L b := by
  obtain ⟨us, h4, h5, h6⟩ := k
  have hzl : (L.zip us).length = L.length := by simp [h4]
  have hfst : (L.zip us).map Prod.fst = L := by rw [List.map_fst_zip (by rw [h4]; exact Nat.le_refl _)]
  obtain ⟨A', c', hv', hc', -, hS'⟩ := own_onlyP (d := rdSh) (f := fun p : Shn × Value => shA p.1 p.2) (g := Prod.fst) (fun _ => rfl) (lo := H) (hi := w.heap.size) (lo' := H) (hi' := w.heap.size) (w := w) (wk := w) (l := L.zip us) (fun p hp => sh_K ((h6 p hp).mono (only_wide hl hg)))
    (fun b cs h1 h2 hh i v hv => cell_only hh h1 h2 hv) (by rw [hzl]; exact h5) hb (Nat.le_refl _)
  rw [hfst] at hS'
  rw [hzl] at hv' hc' hS'
  exact ⟨A', c', hv', hc', hS'⟩
end
section
variable {w w' : World} {base l h : Nat} {L : List Ent} {b : Value}
theorem EowQ.exc (k : EowQ w base L b) (hX : Exc l h w w') (h1 : h ≤ base) : EowQ w' base L b := own_excB k hX h1
theorem EowQ.val (k : EowQ w base L b) : ∃ A c, b = .slice A L.length c := own_val' k
theorem EowQ.at_ (k : EowQ w base L b) (H : Nat) (hb : H ≤ base) (hs : ∀ x ∈ L, x.sum.length = 32) : EsV (only w H w.heap.size) L b := by
  obtain ⟨A', c', hv, h1, -, h2⟩ := own_onlyM (d := rdEn) (f := enA) (fun _ => rfl) (lo := H) (hi := w.heap.size) (fun x hx w => en_K w x (hs x hx)) k hb (Nat.le_refl _)
  exact ⟨A', c', hv, h1, h2⟩
end
theorem zip_snoc2 {α β : Type} (l : List α) (us : List β) (u : β) (x : α) (h : l.length = us.length) : (l ++ [x]).zip (us ++ [u]) = l.zip us ++ [(x, u)] := by
  rw [List.zip_append h]; rfl
theorem shRows_snoc (l : List (Shn × Value)) (x : Shn) (u : Value) : shRows (l ++ [(x, u)]) = shRows l ++ (shA x u).toList := by simp [shRows]
theorem fold_entry {M : Array Value} (hM : M.size = 39) : Array.foldl (fun (cs : Array Value) (x : Value × Nat) => cs.setIfInBounds x.snd x.fst) #[.int .i64 0, .int .i64 0, .int .i64 0, .int .i64 0, .int .i64 0, .string ⟨#[]⟩, .string ⟨#[]⟩, .int .u8 0, .int .u8 0, .int .u8 0, .int .u8 0, .int .u8 0, .int .u8 0, .int .u8 0, .int .u8 0, .int .u8 0, .int .u8 0, .int .u8 0, .int .u8 0, .int .u8 0, .int .u8 0, .int .u8 0, .int .u8 0, .int .u8 0, .int .u8 0, .int .u8 0, .int .u8 0, .int .u8 0, .int .u8 0, .int .u8 0, .int .u8 0, .int .u8 0, .int .u8 0, .int .u8 0, .int .u8 0, .int .u8 0, .int .u8 0, .int .u8 0, .int .u8 0] M.zipIdx 0 39 = M := fold_all (by decide) rfl hM
set_option maxHeartbeats 9000000 in
set_option maxRecDepth 100000 in
theorem listH_any {w : World} {lo g p : Nat} {s : St} (hR : RdrS w lo g s) (rp : Blk w p 116 #[.pointer (some ⟨g, 0, none⟩)]) (hgp : g < p) :
    Calls Tryz.prog 103 #[.agg #[.pointer (some ⟨g, 0, none⟩)], .int .i64 64, .func (.func 104) #[] #[.pointer (some ⟨p, 0, none⟩)]] w fun e w' => ∃ rows s' b, listS 64 shS s = (rows, s') ∧ rows.length ≤ 64 ∧ (∀ x ∈ rows, shOk x) ∧ e = .returned b ∧ HowQ w' w.heap.size lo g rows b ∧ RdrS w' lo g s' ∧ Exc g (g + 1) w w' := by
  obtain ⟨W, hW, hE, bx⟩ := box1 w #[.pointer (some ⟨g, 0, none⟩)] 116
  have x0 : W.cell? ⟨w.heap.size, 0, none⟩ = some (.pointer (some ⟨g, 0, none⟩)) := bx 0 _ rfl
  have hRW : RdrS W lo g s := RdrAt.ext hR hE
  have hc := count_S hRW 64
  rw [show ((64 : Nat) : Int) = 64 from rfl] at hc
  have rpW := rp.ext hE
  have hgs := hR.lt
  have hpl := rp.lt
  obtain ⟨P, hP⟩ : ∃ P : Ending → World → Prop, (fun e w' => ∃ rows s' b, listS 64 shS s = (rows, s') ∧ rows.length ≤ 64 ∧ (∀ x ∈ rows, shOk x) ∧ e = .returned b ∧ HowQ w' w.heap.size lo g rows b ∧ RdrS w' lo g s' ∧ Exc g (g + 1) w w') = P := ⟨_, rfl⟩
  rw [hP]
  have HP := Lib.hid hP
  clear bx hR rp hP
  go_enter Tryz.func103, Tryz.ntmps103
  go_upto_region 1 with fail
  rw [← hW]
  clear hW
  go_wp2_with (go_at_call 93; (with_reducible refine hc.mono ?_); rintro e w1 ⟨m, s1, hp1, hm, rfl, hR1, hX1⟩; have HP1 := Lib.hid hp1; clear hp1)
  have rp1 := hX1.blk rpW (.inr hgp)
  have hXs := (Ext.exc hE).trans hX1
  clear hc rpW hRW hX1 hE x0
  go_loopw [6, 11] (fun v i wr => ∃ (k : Nat) (rows : List Shn) (us : List Value) (sk : St), k ≤ m ∧ i = .int .i64 k ∧ Hid (manyS shS k s1 = (rows, sk)) ∧ RdrS wr lo g sk ∧ Blk wr p 116 #[.pointer (some ⟨g, 0, none⟩)] ∧ Exc g (g + 1) w wr ∧ wr.ownsRow w.heap.size 70 6 v k (shRows (rows.zip us)) ∧ Hid (rows.length = k) ∧ Hid (us.length = k) ∧ (∀ x ∈ rows, shOk x) ∧ (∀ q ∈ rows.zip us, YsV (only wr lo g) q.1.body q.2)) (fun _ i _ => m - (intOf i).toNat)
  case atStart => exact ⟨0, [], [], s1, by omega, rfl, Lib.hid rfl, hR1, rp1, hXs, (by simpa [shRows] using World.ownsRow_nil _ _ _ _), Lib.hid rfl, Lib.hid rfl, (fun x hx => by cases hx), (fun q hq => by simp at hq)⟩
  case round =>
    clear hR1 rp1 hXs
    obtain ⟨k, rows, us, sk, hkm, rfl, HB, hRk, rpk, hXk, hown, HL, HU, hrl, hel⟩ := hrel
    by_cases hlt : k < m
    · have hg1 := getH_any hRk rpk hgp
      have hsz : w.heap.size ≤ wr.heap.size := hXk.size
      have hel1 := hel
      clear hel
      go_wp2_with (first | (go_at_call 104; (with_reducible refine hg1.mono ?_); rintro e w2 ⟨x1, s2, u1, hp2, hz1, rfl, h1Y, hR2, hX2⟩; have HB1 := Lib.hid hp2; clear hp2 hg1; have hown2 := own_excB hown hX2 (by omega); have hu1 : u1.oneCell' = true := (by obtain ⟨_, _, rfl, _⟩ := h1Y; rfl); have hfo := fold_all (Z := #[.string ⟨#[]⟩, .string ⟨#[]⟩, .int .i64 0, .int .i64 0, .int .i64 0, .slice none 0 0]) (C := shA x1 u1) (n := 6) (by decide) rfl rfl; have h1 : ∀ u ∈ (shA x1 u1).toList, u.oneCell' = true := fun u hu => Array.all_eq_true_iff_forall_mem.1 (one_shA x1 u1 hu1) u (by simpa using hu); have hsz1 := sh_size x1 u1; generalize hCC : shA x1 u1 = C2 at *; have HC := Lib.hid hCC; clear hCC) | (at_builtin; refine wpList_append_cells (news := C2.toList) rfl elt_Shown (.tmp 13) (.tmp 16) rfl (hown2.alloc _) rfl rfl ?c0 ?c1 ?c2 ?c3 ?c4 ?_))
      case c0 => exact ⟨by simp [hsz1], (fun h => by cases h), fun ad h j u hu => (by cases h; exact new_cells w2 _ C2 j u hu)⟩
      case c1 => exact h1
      case c2 => unfold maxLen; omega
      case c3 => omega
      case c4 => have := hX2.size; simp; omega
      intro v' w3 hown' hgrow
      have hsz2 : w.heap.size ≤ w2.heap.size := Nat.le_trans hsz hX2.size
      have hb3 : Below w.heap.size w2 w3 := below_grown ((Below.refl _ _).alloc hsz2 (.cells C2 70)) (by simp; omega) (hown2.alloc _) hgrow (Nat.le_refl _)
      have hX3 : Exc g (g + 1) w w3 := (hXk.trans hX2).above (lo := g) (l := w.heap.size) (h := w3.heap.size + w.heap.size) ⟨hb3.os, hb3.tape, hb3.output, hb3.size, fun i hi hd => hb3.block i (by have := hb3.size; omega)⟩ (Nat.le_refl _)
      have hR3 := hR2.below hb3 hgs
      have rp3 : Blk w3 p 116 #[.pointer (some ⟨g, 0, none⟩)] := (hb3.block p hpl).trans (hX2.blk rpk (.inr hgp))
      have hon2 : only w2 lo g = only wr lo g := hX2.only (by omega) (.inl (Nat.le_refl _))
      have hon3 : only w3 lo g = only w2 lo g := only_keep fun b _ h2 => hb3.block b (by omega)
      have hzs := zip_snoc2 rows us u1 x1 (by rw [HL.out, HU.out])
      have hel2 : Hid (∀ q ∈ (rows ++ [x1]).zip (us ++ [u1]), YsV (only w3 lo g) q.1.body q.2) := Lib.hid (fun q hq => by
        rw [hzs] at hq
        rcases List.mem_append.1 hq with hq | hq
        · rw [hon3, hon2]; exact hel1 q hq
        · obtain rfl : q = (x1, u1) := by simpa using hq
          rw [hon3]; exact h1Y)
      have hrow : Hid (w3.ownsRow w.heap.size 70 6 v' (k + 1) (shRows ((rows ++ [x1]).zip (us ++ [u1])))) := Lib.hid (by
        rw [hzs, shRows_snoc, HC.out]
        simpa using hown')
      have hrl2 : ∀ y ∈ rows ++ [x1], shOk y := fun y hy => by
        rcases List.mem_append.1 hy with hy | hy
        · exact hrl y hy
        · obtain rfl : y = x1 := by simpa using hy
          exact hz1
      have HB2 : Hid (manyS shS (k + 1) s1 = (rows ++ [x1], s2)) := Lib.hid (by rw [manyS, HB.out]; simp only [HB1.out])
      have HL2 : Hid ((rows ++ [x1]).length = k + 1) := Lib.hid (by rw [List.length_append, HL.out]; rfl)
      have HU2 : Hid ((us ++ [u1]).length = k + 1) := Lib.hid (by rw [List.length_append, HU.out]; rfl)
      clear hgrow hown hown2 hel1 hrl hX2 hXk hRk rpk hR2 h1Y hon2 hon3 HB HL HU HB1 hzs hfo h1 hsz1 hown' hb3
      go_wp2_with fail
      go_roundw
      case rel => exact ⟨k + 1, rows ++ [x1], us ++ [u1], s2, by omega, by go_num, HB2, hR3, rp3, hX3, hrow.out, HL2, HU2, hrl2, hel2.out⟩
      case measure => simp [intOf]; omega
    · obtain rfl : k = m := by omega
      have HR := Lib.hid hRk
      have HQ := Lib.hid (show HowQ wr w.heap.size lo g rows _ from ⟨us, by rw [HL.out, HU.out], by rw [HL.out]; exact hown, hel⟩)
      clear hRk rpk hown hel
      go_wp2_with fail
      rw [← HP.out]
      exact ⟨rows, sk, _, by unfold listS; simp only [HP1.out, Int.toNat_natCast]; exact HB.out, by rw [HL.out]; omega, hrl, rfl, HQ.out, HR.out, hXk⟩
set_option maxHeartbeats 9000000 in
set_option maxRecDepth 100000 in
theorem listE_any {w : World} {lo g p : Nat} {s : St} (hR : RdrS w lo g s) (rp : Blk w p 116 #[.pointer (some ⟨g, 0, none⟩)]) (hgp : g < p) :
    Calls Tryz.prog 105 #[.agg #[.pointer (some ⟨g, 0, none⟩)], .int .i64 64, .func (.func 106) #[] #[.pointer (some ⟨p, 0, none⟩)]] w fun e w' => ∃ rows s' b, listS 64 enS s = (rows, s') ∧ rows.length ≤ 64 ∧ (∀ x ∈ rows, enOk x) ∧ e = .returned b ∧ EowQ w' w.heap.size rows b ∧ RdrS w' lo g s' ∧ Exc g (g + 1) w w' := by
  obtain ⟨W, hW, hE, bx⟩ := box1 w #[.pointer (some ⟨g, 0, none⟩)] 116
  have x0 : W.cell? ⟨w.heap.size, 0, none⟩ = some (.pointer (some ⟨g, 0, none⟩)) := bx 0 _ rfl
  have hRW : RdrS W lo g s := RdrAt.ext hR hE
  have hc := count_S hRW 64
  rw [show ((64 : Nat) : Int) = 64 from rfl] at hc
  have rpW := rp.ext hE
  have hgs := hR.lt
  have hpl := rp.lt
  obtain ⟨P, hP⟩ : ∃ P : Ending → World → Prop, (fun e w' => ∃ rows s' b, listS 64 enS s = (rows, s') ∧ rows.length ≤ 64 ∧ (∀ x ∈ rows, enOk x) ∧ e = .returned b ∧ EowQ w' w.heap.size rows b ∧ RdrS w' lo g s' ∧ Exc g (g + 1) w w') = P := ⟨_, rfl⟩
  rw [hP]
  have HP := Lib.hid hP
  clear bx hR rp hP
  go_enter Tryz.func105, Tryz.ntmps105
  go_upto_region 1 with fail
  rw [← hW]
  clear hW
  go_wp2_with (go_at_call 93; (with_reducible refine hc.mono ?_); rintro e w1 ⟨m, s1, hp1, hm, rfl, hR1, hX1⟩; have HP1 := Lib.hid hp1; clear hp1)
  have rp1 := hX1.blk rpW (.inr hgp)
  have hXs := (Ext.exc hE).trans hX1
  clear hc rpW hRW hX1 hE x0
  go_loopw [6, 11] (fun v i wr => ∃ (k : Nat) (rows : List Ent) (sk : St), k ≤ m ∧ i = .int .i64 k ∧ Hid (manyS enS k s1 = (rows, sk)) ∧ RdrS wr lo g sk ∧ Blk wr p 116 #[.pointer (some ⟨g, 0, none⟩)] ∧ Exc g (g + 1) w wr ∧ wr.ownsRow w.heap.size 72 39 v k (rows.flatMap fun x => (enA x).toList) ∧ Hid (rows.length = k) ∧ (∀ x ∈ rows, enOk x)) (fun _ i _ => m - (intOf i).toNat)
  case atStart => exact ⟨0, [], s1, by omega, rfl, Lib.hid rfl, hR1, rp1, hXs, World.ownsRow_nil _ _ _ _, Lib.hid rfl, (fun x hx => by cases hx)⟩
  case round =>
    clear hR1 rp1 hXs
    obtain ⟨k, rows, sk, hkm, rfl, HB, hRk, rpk, hXk, hown, HL, hrl⟩ := hrel
    by_cases hlt : k < m
    · have hg1 := getE_any hRk rpk hgp
      have hsz : w.heap.size ≤ wr.heap.size := hXk.size
      go_wp2_with (first | (go_at_call 106; (with_reducible refine hg1.mono ?_); rintro e w2 ⟨x1, s2, hp2, hz1, rfl, hR2, hX2⟩; have HB1 := Lib.hid hp2; clear hp2 hg1; have hown2 := own_excB hown hX2 (by omega); have hfo := fold_entry (M := enA x1) rfl; have h1 := one_en x1; have hsz1 := enA_size x1; generalize hCC : enA x1 = C2 at *; have HC := Lib.hid hCC; clear hCC) | (at_builtin; refine wpList_append_cells (news := C2.toList) rfl elt_Entries (.tmp 13) (.tmp 16) rfl (hown2.alloc _) rfl rfl ?c0 ?c1 ?c2 ?c3 ?c4 ?_))
      case c0 => exact ⟨by simp [hsz1], (fun h => by cases h), fun ad h j u hu => (by cases h; exact new_cells w2 _ C2 j u hu)⟩
      case c1 => exact h1
      case c2 => unfold maxLen; omega
      case c3 => omega
      case c4 => have := hX2.size; simp; omega
      intro v' w3 hown' hgrow
      have hsz2 : w.heap.size ≤ w2.heap.size := Nat.le_trans hsz hX2.size
      have hb3 : Below w.heap.size w2 w3 := below_grown ((Below.refl _ _).alloc hsz2 (.cells C2 72)) (by simp; omega) (hown2.alloc _) hgrow (Nat.le_refl _)
      have hX3 : Exc g (g + 1) w w3 := (hXk.trans hX2).above (lo := g) (l := w.heap.size) (h := w3.heap.size + w.heap.size) ⟨hb3.os, hb3.tape, hb3.output, hb3.size, fun i hi hd => hb3.block i (by have := hb3.size; omega)⟩ (Nat.le_refl _)
      have hR3 := hR2.below hb3 hgs
      have rp3 : Blk w3 p 116 #[.pointer (some ⟨g, 0, none⟩)] := (hb3.block p hpl).trans (hX2.blk rpk (.inr hgp))
      have hrow : Hid (w3.ownsRow w.heap.size 72 39 v' (k + 1) ((rows ++ [x1]).flatMap fun x => (enA x).toList)) := Lib.hid (by
        rw [List.flatMap_append]
        simpa [HC.out] using hown')
      have hrl2 : ∀ y ∈ rows ++ [x1], enOk y := fun y hy => by
        rcases List.mem_append.1 hy with hy | hy
        · exact hrl y hy
        · obtain rfl : y = x1 := by simpa using hy
          exact hz1
      have HB2 : Hid (manyS enS (k + 1) s1 = (rows ++ [x1], s2)) := Lib.hid (by rw [manyS, HB.out]; simp only [HB1.out])
      have HL2 : Hid ((rows ++ [x1]).length = k + 1) := Lib.hid (by rw [List.length_append, HL.out]; rfl)
      clear hgrow hown hown2 hrl hX2 hXk hRk rpk hR2 HB HL HB1 hfo h1 hsz1 hown' hb3
      go_wp2_with fail
      go_roundw
      case rel => exact ⟨k + 1, rows ++ [x1], s2, by omega, by go_num, HB2, hR3, rp3, hX3, hrow.out, HL2, hrl2⟩
      case measure => simp [intOf]; omega
    · obtain rfl : k = m := by omega
      have HR := Lib.hid hRk
      have HQ := Lib.hid (show EowQ wr w.heap.size rows _ from (by unfold EowQ; rw [HL.out]; exact hown))
      clear hRk rpk hown
      go_wp2_with fail
      rw [← HP.out]
      exact ⟨rows, sk, _, by unfold listS; simp only [HP1.out, Int.toNat_natCast]; exact HB.out, by rw [HL.out]; omega, hrl, rfl, HQ.out, HR.out, hXk⟩
end Go.Proofs.YtgfhbachgniipaaGreatDoor

namespace Go.Proofs.YtgfhbachgniipaaGreatDoor
open Go.RowKit
theorem RSt.store {W0 w w' : World} {lo g p h : Nat} {T : TypeId} {cs cs' : Array Value} {s : St} (k : RSt W0 w lo g p h T cs s) (hX : Exc h (h + 1) w w') (hB : Blk w' h T cs') (h0 : W0.heap.size ≤ h) : RSt W0 w' lo g p h T cs' s :=
  ⟨RdrAt.exc k.rd hX (.inl (by have := k.gp; have := k.ph; omega)), hX.blk k.rp (.inl k.ph), hB, k.gp, k.ph, k.xe.above hX h0⟩
theorem RSt.put {W0 w : World} {lo g p h : Nat} {T : TypeId} {cs : Array Value} {s : St} (k : RSt W0 w lo g p h T cs s) (i : Nat) (v : Value) (h0 : W0.heap.size ≤ h) : RSt W0 (w.setCell ⟨h, i, none⟩ v) lo g p h T (cs.setIfInBounds i v) s :=
  k.store (Exc.setCell (p := ⟨h, i, none⟩) (Nat.le_refl _) (Nat.lt_succ_self _) v) (k.rs.set_ i v) h0
theorem set_exc (w : World) (h i : Nat) (v : Value) : Exc h (h + 1) w (w.setCell ⟨h, i, none⟩ v) := Exc.setCell (p := ⟨h, i, none⟩) (Nat.le_refl _) (Nat.lt_succ_self _) v
def AnsOwn (w : World) (lo hi : Nat) (x : Ans) (C : Array Value) : Prop := ∃ s a e, C = ansA x s a e ∧ HsV (only w lo hi) x.shown s ∧ GsV (only w lo hi) x.tok.gs a ∧ EsV (only w lo hi) x.ents e
def GetA (w : World) (b : List UInt8) (e : Ending) (w' : World) : Prop := ∃ C, e = .returned (.tuple #[.agg C, .int .i64 (getA b).2]) ∧ AnsOwn w' w.heap.size w'.heap.size (getA b).1 C ∧ Ext w w'
theorem getA_zero {w w' : World} {b : List UInt8} {v : Int} (h : getA b = (zAns, v)) (hE : Ext w w') : GetA w b (.returned (.tuple #[.agg (ansA zAns (.slice none 0 0) (.slice none 0 0) (.slice none 0 0)), .int .i64 v])) w' := by
  unfold GetA
  rw [h]
  exact ⟨_, rfl, ⟨_, _, _, rfl, HsV.nil _, GsV.nil _, EsV.nil _⟩, hE⟩
theorem getA_full {w w' : World} {l : List UInt8} {x : Ans} {C : Array Value} (h : getA l = (x, 0)) (hi : AnsOwn w' w.heap.size w'.heap.size x C) (hE : Ext w w') : GetA w l (.returned (.tuple #[.agg C, .int .i64 0])) w' := by
  unfold GetA
  rw [h]
  exact ⟨_, rfl, hi, hE⟩
theorem ans_step {s0 s1 s2 s3 s4 s5 : St} {k n : Int} {rs : List Shn} {t : Tok} {es : List Ent} (h1 : intS s0 = (k, s1)) (h2 : intS s1 = (n, s2)) (h3 : listS 64 shS s2 = (rs, s3)) (h4 : tokS s3 = (t, s4)) (h5 : listS 64 enS s4 = (es, s5)) : ansS s0 = (⟨k, n, rs, t, es⟩, s5) := by
  unfold ansS ansP pairS
  simp only [h1, h2, h3, h4, h5]
set_option maxHeartbeats 9000000 in
set_option maxRecDepth 100000 in
theorem aget_any (w : World) (A : Option Addr) (c : Nat) (l : List UInt8) (hS : Rd.u8.Sl w A l.length l) (hc : l.length ≤ c) (hn : l.length ≤ 4294967296) :
    Calls Tryz.prog 29 #[.slice A l.length c] w (GetA w l) := by
  obtain ⟨P, hP⟩ : ∃ P, GetA w l = P := ⟨_, rfl⟩
  rw [hP]
  have HP := Lib.hid hP
  clear hP
  have hrd := fun (w' : World) (h : Ext w w') => read_any w' A c l (hS.ext h) hc hn
  obtain ⟨n, hln⟩ : ∃ n, l.length = n := ⟨_, rfl⟩
  rw [hln] at hrd hc hn ⊢
  clear hS
  obtain ⟨W, hW, hE, -⟩ := box1 w #[.int .i64 0, .int .i64 0, .slice none 0 0, .string ⟨#[]⟩, .int .i64 0, .slice none 0 0, .int .u8 0, .int .u8 0, .int .u8 0, .int .u8 0, .int .u8 0, .int .u8 0, .int .u8 0, .int .u8 0, .int .u8 0, .int .u8 0, .int .u8 0, .int .u8 0, .int .u8 0, .int .u8 0, .int .u8 0, .int .u8 0, .int .u8 0, .int .u8 0, .int .u8 0, .int .u8 0, .int .u8 0, .int .u8 0, .int .u8 0, .int .u8 0, .int .u8 0, .int .u8 0, .int .u8 0, .int .u8 0, .int .u8 0, .int .u8 0, .int .u8 0, .int .u8 0, .slice none 0 0] 46
  have B : Blk W w.heap.size 46 #[.int .i64 0, .int .i64 0, .slice none 0 0, .string ⟨#[]⟩, .int .i64 0, .slice none 0 0, .int .u8 0, .int .u8 0, .int .u8 0, .int .u8 0, .int .u8 0, .int .u8 0, .int .u8 0, .int .u8 0, .int .u8 0, .int .u8 0, .int .u8 0, .int .u8 0, .int .u8 0, .int .u8 0, .int .u8 0, .int .u8 0, .int .u8 0, .int .u8 0, .int .u8 0, .int .u8 0, .int .u8 0, .int .u8 0, .int .u8 0, .int .u8 0, .int .u8 0, .int .u8 0, .int .u8 0, .int .u8 0, .int .u8 0, .int .u8 0, .int .u8 0, .int .u8 0, .slice none 0 0] := by rw [hW]; exact Blk.new _ _ _
  have hWs : W.heap.size = w.heap.size + 1 := by rw [hW]; simp
  go_enter Tryz.func29, Tryz.ntmps29
  go_upto_region 1 with fail
  rw [← hW]
  clear hW
  go_upto_region 2 with (go_at_call 86; (with_reducible refine (hrd _ hE).mono ?_); rintro e w1 ⟨g, rfl, hR1, hg1, hg2, hE1⟩)
  rw [hWs] at hR1 hg1
  have hR1 : RdrS w1 (w.heap.size + 1) g (l, 0) := hR1
  have hEp : Ext w1 (w1.alloc (.cells #[.pointer (some ⟨g, 0, none⟩)] 116)) := (Ext.refl _).alloc _
  have Bp := Blk.new w1 116 #[.pointer (some ⟨g, 0, none⟩)]
  have hs2 : (w1.alloc (.cells #[.pointer (some ⟨g, 0, none⟩)] 116)).heap.size = w1.heap.size + 1 := by simp
  generalize w1.alloc (.cells #[.pointer (some ⟨g, 0, none⟩)] 116) = w2 at *
  have hP0 : PSt w2 w2 (w.heap.size + 1) g w1.heap.size (l, 0) := ⟨RdrAt.ext hR1 hEp, Bp, by omega, Exc.refl _ _ _⟩
  have hE2 : Ext w w2 := hE.trans (hE1.trans hEp)
  have hD2 : Blk w2 w.heap.size 46 #[.int .i64 0, .int .i64 0, .slice none 0 0, .string ⟨#[]⟩, .int .i64 0, .slice none 0 0, .int .u8 0, .int .u8 0, .int .u8 0, .int .u8 0, .int .u8 0, .int .u8 0, .int .u8 0, .int .u8 0, .int .u8 0, .int .u8 0, .int .u8 0, .int .u8 0, .int .u8 0, .int .u8 0, .int .u8 0, .int .u8 0, .int .u8 0, .int .u8 0, .int .u8 0, .int .u8 0, .int .u8 0, .int .u8 0, .int .u8 0, .int .u8 0, .int .u8 0, .int .u8 0, .int .u8 0, .int .u8 0, .int .u8 0, .int .u8 0, .int .u8 0, .int .u8 0, .slice none 0 0] := B.ext (hE1.trans hEp)
  clear hR1 hEp Bp hrd B hE hE1 hg2 hWs
  generalize w1.heap.size = p at *
  have hs2i : w2.heap.size ≤ p + 1 := by omega
  clear hs2
  have rp := fun (w' : World) (h : Blk w' p 116 #[.pointer (some ⟨g, 0, none⟩)]) => h.cell 0 (v := .pointer (some ⟨g, 0, none⟩)) rfl
  apply key4 (F := fun (x1 x2 : Int) (q : Nat) (wx : World) => ∃ s1 s2, Hid (intS (l, 0) = (x1, s1)) ∧ Hid (intS s1 = (x2, s2)) ∧ intOk x1 ∧ intOk x2 ∧ RSt w2 wx (w.heap.size + 1) g p q 46 (ansA ⟨x1, x2, [], zTok, []⟩ (.slice none 0 0) (.slice none 0 0) (.slice none 0 0)) s2)
  · intro key
    refine wp_region_noPanic ?_
    refine tr_start (.y 0 (.y 2 (.y 3 (.two 1 6 (.two 4 6 (.y 5 (.e 6 (.e 7 .nil))) (.e 4 (.y 5 (.e 7 .nil)))) (.e 1 (.e 4 (.y 5 (.e 7 .nil)))))))) (fun w' => Blk w' p 116 #[.pointer (some ⟨g, 0, none⟩)]) (by kernel_rfl) (by as_aux_lemma => kernel_rfl) (fun _ _ _ _ _ h => h) (hP0.drew.rp) ?_
    have hP1 := hP0.drew
    generalize w2.drew = wd at hP1 ⊢
    iterate 3 (first | (refine tr_off (a' := ?_) rfl rfl (by rfl) ?_ ?_; rotate_left 1; (· simp only [Act.put, zzA, zz0, zzS]; rfl)) | (refine tr_y (v := ?_) (a' := ?_) rfl rfl (by rfl) (fun w' hw' => ?_) ?_ ?_; rotate_left 2; (· go_simp; with_reducible rfl); (· simp only [Act.put, zzA, zz0, zzS]; rfl)))
    refine tr_two ?_ ?_
    · refine tr_call (args := ?_) rfl Tryz.func102 (by kernel_rfl) rfl (by rfl) rfl rfl ?_ ?_
      rotate_left 1
      · go_simp; rfl
      (with_reducible refine (code_rd (hP1).rd).mono ?_)
      rintro e w3 ⟨x1, s1, hp1, hz1, rfl, hR3, hX3⟩
      refine ⟨_, _, rfl, (hP1).exc hR3 hX3 |>.rp, (by simp only [Act.put, zzA, zz0, zzS]; rfl), ?_⟩
      have HP1 := Lib.hid hp1
      have hP3 := (hP1).exc hR3 hX3
      refine tr_two ?_ ?_
      · refine tr_call (args := ?_) rfl Tryz.func87 (by kernel_rfl) rfl (by rfl) rfl rfl ?_ ?_
        rotate_left 1
        · go_simp; rfl
        (with_reducible refine (int_S (hP3).rd).mono ?_)
        rintro e w4 ⟨x2, s2, hp2, hz2, rfl, hR4, hX4⟩
        refine ⟨_, _, rfl, (hP3).exc hR4 hX4 |>.rp, (by simp only [Act.put, zzA, zz0, zzS]; rfl), ?_⟩
        have HP2 := Lib.hid hp2
        have hP4 := (hP3).exc hR4 hX4
        iterate 1 (first | (refine tr_off (a' := ?_) rfl rfl (by rfl) ?_ ?_; rotate_left 1; (· simp only [Act.put, zzA, zz0, zzS]; rfl)) | (refine tr_y (v := ?_) (a' := ?_) rfl rfl (by rfl) (fun w' hw' => ?_) ?_ ?_; rotate_left 2; (· go_simp; with_reducible rfl); (· simp only [Act.put, zzA, zz0, zzS]; rfl)))
        have hK5 := (hP4).box 46 #[.int .i64 0, .int .i64 0, .slice none 0 0, .string ⟨#[]⟩, .int .i64 0, .slice none 0 0, .int .u8 0, .int .u8 0, .int .u8 0, .int .u8 0, .int .u8 0, .int .u8 0, .int .u8 0, .int .u8 0, .int .u8 0, .int .u8 0, .int .u8 0, .int .u8 0, .int .u8 0, .int .u8 0, .int .u8 0, .int .u8 0, .int .u8 0, .int .u8 0, .int .u8 0, .int .u8 0, .int .u8 0, .int .u8 0, .int .u8 0, .int .u8 0, .int .u8 0, .int .u8 0, .int .u8 0, .int .u8 0, .int .u8 0, .int .u8 0, .int .u8 0, .int .u8 0, .slice none 0 0]
        refine tr_value (v := ?_) (w1 := ?_) (a' := ?_) rfl rfl (by rfl) ?_ ?_ ?_ ?_
        rotate_left 3
        · go_simp; refine ⟨?_, ?_⟩ <;> with_reducible rfl
        · exact (hK5).rp
        · simp only [Act.put, zzA, zz0, zzS]; rfl
        generalize (w4).alloc (.cells #[.int .i64 0, .int .i64 0, .slice none 0 0, .string ⟨#[]⟩, .int .i64 0, .slice none 0 0, .int .u8 0, .int .u8 0, .int .u8 0, .int .u8 0, .int .u8 0, .int .u8 0, .int .u8 0, .int .u8 0, .int .u8 0, .int .u8 0, .int .u8 0, .int .u8 0, .int .u8 0, .int .u8 0, .int .u8 0, .int .u8 0, .int .u8 0, .int .u8 0, .int .u8 0, .int .u8 0, .int .u8 0, .int .u8 0, .int .u8 0, .int .u8 0, .int .u8 0, .int .u8 0, .int .u8 0, .int .u8 0, .int .u8 0, .int .u8 0, .int .u8 0, .int .u8 0, .slice none 0 0] 46) = w5 at hK5 ⊢
        generalize (w4).heap.size = gq at hK5 ⊢
        obtain ⟨wF, hrF, BF, hXF⟩ := store_part (hK5).rs 0 (ansA ⟨x1, x2, [], zTok, []⟩ (.slice none 0 0) (.slice none 0 0) (.slice none 0 0)) [] [.int .i64 0, .int .i64 0, .slice none 0 0, .string ⟨#[]⟩, .int .i64 0, .slice none 0 0, .int .u8 0, .int .u8 0, .int .u8 0, .int .u8 0, .int .u8 0, .int .u8 0, .int .u8 0, .int .u8 0, .int .u8 0, .int .u8 0, .int .u8 0, .int .u8 0, .int .u8 0, .int .u8 0, .int .u8 0, .int .u8 0, .int .u8 0, .int .u8 0, .int .u8 0, .int .u8 0, .int .u8 0, .int .u8 0, .int .u8 0, .int .u8 0, .int .u8 0, .int .u8 0, .int .u8 0, .int .u8 0, .int .u8 0, .int .u8 0, .int .u8 0, .int .u8 0, .slice none 0 0] [] rfl rfl rfl 46 (by kernel_rfl) (one_ansT _ _ _ _ rfl rfl rfl)
        refine tr_last (w1 := wF) rfl (by rfl) rfl (by kernel_rfl) (run_op_store rfl ?_ ?_ hrF) ?_
        · rfl
        · rfl
        refine NoPanic.normal ?_
        exact key x1 x2 gq wF ⟨s1, s2, HP1, HP2, hz1, hz2, (hK5).store hXF (by simpa using BF) (by have := (hK5).ph; omega)⟩
      · have hK4 := (hP3).box 46 #[.int .i64 0, .int .i64 0, .slice none 0 0, .string ⟨#[]⟩, .int .i64 0, .slice none 0 0, .int .u8 0, .int .u8 0, .int .u8 0, .int .u8 0, .int .u8 0, .int .u8 0, .int .u8 0, .int .u8 0, .int .u8 0, .int .u8 0, .int .u8 0, .int .u8 0, .int .u8 0, .int .u8 0, .int .u8 0, .int .u8 0, .int .u8 0, .int .u8 0, .int .u8 0, .int .u8 0, .int .u8 0, .int .u8 0, .int .u8 0, .int .u8 0, .int .u8 0, .int .u8 0, .int .u8 0, .int .u8 0, .int .u8 0, .int .u8 0, .int .u8 0, .int .u8 0, .slice none 0 0]
        refine tr_value (v := ?_) (w1 := ?_) (a' := ?_) rfl rfl (by rfl) ?_ ?_ ?_ ?_
        rotate_left 3
        · go_simp; refine ⟨?_, ?_⟩ <;> with_reducible rfl
        · exact (hK4).rp
        · simp only [Act.put, zzA, zz0, zzS]; rfl
        generalize (w3).alloc (.cells #[.int .i64 0, .int .i64 0, .slice none 0 0, .string ⟨#[]⟩, .int .i64 0, .slice none 0 0, .int .u8 0, .int .u8 0, .int .u8 0, .int .u8 0, .int .u8 0, .int .u8 0, .int .u8 0, .int .u8 0, .int .u8 0, .int .u8 0, .int .u8 0, .int .u8 0, .int .u8 0, .int .u8 0, .int .u8 0, .int .u8 0, .int .u8 0, .int .u8 0, .int .u8 0, .int .u8 0, .int .u8 0, .int .u8 0, .int .u8 0, .int .u8 0, .int .u8 0, .int .u8 0, .int .u8 0, .int .u8 0, .int .u8 0, .int .u8 0, .int .u8 0, .int .u8 0, .slice none 0 0] 46) = w4 at hK4 ⊢
        generalize (w3).heap.size = gq at hK4 ⊢
        refine tr_call (args := ?_) rfl Tryz.func87 (by kernel_rfl) rfl (by rfl) rfl rfl ?_ ?_
        rotate_left 1
        · go_simp; rfl
        (with_reducible refine (int_S (hK4).rd).mono ?_)
        rintro e w5 ⟨x2, s2, hp2, hz2, rfl, hR4, hX4⟩
        refine ⟨_, _, rfl, (hK4).exc hR4 hX4 |>.rp, (by simp only [Act.put, zzA, zz0, zzS]; rfl), ?_⟩
        have HP2 := Lib.hid hp2
        have hK5 := (hK4).exc hR4 hX4
        iterate 1 (first | (refine tr_off (a' := ?_) rfl rfl (by rfl) ?_ ?_; rotate_left 1; (· simp only [Act.put, zzA, zz0, zzS]; rfl)) | (refine tr_y (v := ?_) (a' := ?_) rfl rfl (by rfl) (fun w' hw' => ?_) ?_ ?_; rotate_left 2; (· go_simp; with_reducible rfl); (· simp only [Act.put, zzA, zz0, zzS]; rfl)))
        obtain ⟨wF, hrF, BF, hXF⟩ := store_part (hK5).rs 0 (ansA ⟨x1, x2, [], zTok, []⟩ (.slice none 0 0) (.slice none 0 0) (.slice none 0 0)) [] [.int .i64 0, .int .i64 0, .slice none 0 0, .string ⟨#[]⟩, .int .i64 0, .slice none 0 0, .int .u8 0, .int .u8 0, .int .u8 0, .int .u8 0, .int .u8 0, .int .u8 0, .int .u8 0, .int .u8 0, .int .u8 0, .int .u8 0, .int .u8 0, .int .u8 0, .int .u8 0, .int .u8 0, .int .u8 0, .int .u8 0, .int .u8 0, .int .u8 0, .int .u8 0, .int .u8 0, .int .u8 0, .int .u8 0, .int .u8 0, .int .u8 0, .int .u8 0, .int .u8 0, .int .u8 0, .int .u8 0, .int .u8 0, .int .u8 0, .int .u8 0, .int .u8 0, .slice none 0 0] [] rfl rfl rfl 46 (by kernel_rfl) (one_ansT _ _ _ _ rfl rfl rfl)
        refine tr_last (w1 := wF) rfl (by rfl) rfl (by kernel_rfl) (run_op_store rfl ?_ ?_ hrF) ?_
        · rfl
        · rfl
        refine NoPanic.normal ?_
        exact key x1 x2 gq wF ⟨s1, s2, HP1, HP2, hz1, hz2, (hK5).store hXF (by simpa using BF) (by have := (hK5).ph; omega)⟩
    · have hK3 := (hP1).box 46 #[.int .i64 0, .int .i64 0, .slice none 0 0, .string ⟨#[]⟩, .int .i64 0, .slice none 0 0, .int .u8 0, .int .u8 0, .int .u8 0, .int .u8 0, .int .u8 0, .int .u8 0, .int .u8 0, .int .u8 0, .int .u8 0, .int .u8 0, .int .u8 0, .int .u8 0, .int .u8 0, .int .u8 0, .int .u8 0, .int .u8 0, .int .u8 0, .int .u8 0, .int .u8 0, .int .u8 0, .int .u8 0, .int .u8 0, .int .u8 0, .int .u8 0, .int .u8 0, .int .u8 0, .int .u8 0, .int .u8 0, .int .u8 0, .int .u8 0, .int .u8 0, .int .u8 0, .slice none 0 0]
      refine tr_value (v := ?_) (w1 := ?_) (a' := ?_) rfl rfl (by rfl) ?_ ?_ ?_ ?_
      rotate_left 3
      · go_simp; refine ⟨?_, ?_⟩ <;> with_reducible rfl
      · exact (hK3).rp
      · simp only [Act.put, zzA, zz0, zzS]; rfl
      generalize (wd).alloc (.cells #[.int .i64 0, .int .i64 0, .slice none 0 0, .string ⟨#[]⟩, .int .i64 0, .slice none 0 0, .int .u8 0, .int .u8 0, .int .u8 0, .int .u8 0, .int .u8 0, .int .u8 0, .int .u8 0, .int .u8 0, .int .u8 0, .int .u8 0, .int .u8 0, .int .u8 0, .int .u8 0, .int .u8 0, .int .u8 0, .int .u8 0, .int .u8 0, .int .u8 0, .int .u8 0, .int .u8 0, .int .u8 0, .int .u8 0, .int .u8 0, .int .u8 0, .int .u8 0, .int .u8 0, .int .u8 0, .int .u8 0, .int .u8 0, .int .u8 0, .int .u8 0, .int .u8 0, .slice none 0 0] 46) = w3 at hK3 ⊢
      generalize (wd).heap.size = gq at hK3 ⊢
      refine tr_call (args := ?_) rfl Tryz.func102 (by kernel_rfl) rfl (by rfl) rfl rfl ?_ ?_
      rotate_left 1
      · go_simp; rfl
      (with_reducible refine (code_rd (hK3).rd).mono ?_)
      rintro e w4 ⟨x1, s1, hp1, hz1, rfl, hR3, hX3⟩
      refine ⟨_, _, rfl, (hK3).exc hR3 hX3 |>.rp, (by simp only [Act.put, zzA, zz0, zzS]; rfl), ?_⟩
      have HP1 := Lib.hid hp1
      have hK4 := (hK3).exc hR3 hX3
      refine tr_call (args := ?_) rfl Tryz.func87 (by kernel_rfl) rfl (by rfl) rfl rfl ?_ ?_
      rotate_left 1
      · go_simp; rfl
      (with_reducible refine (int_S (hK4).rd).mono ?_)
      rintro e w5 ⟨x2, s2, hp2, hz2, rfl, hR4, hX4⟩
      refine ⟨_, _, rfl, (hK4).exc hR4 hX4 |>.rp, (by simp only [Act.put, zzA, zz0, zzS]; rfl), ?_⟩
      have HP2 := Lib.hid hp2
      have hK5 := (hK4).exc hR4 hX4
      iterate 1 (first | (refine tr_off (a' := ?_) rfl rfl (by rfl) ?_ ?_; rotate_left 1; (· simp only [Act.put, zzA, zz0, zzS]; rfl)) | (refine tr_y (v := ?_) (a' := ?_) rfl rfl (by rfl) (fun w' hw' => ?_) ?_ ?_; rotate_left 2; (· go_simp; with_reducible rfl); (· simp only [Act.put, zzA, zz0, zzS]; rfl)))
      obtain ⟨wF, hrF, BF, hXF⟩ := store_part (hK5).rs 0 (ansA ⟨x1, x2, [], zTok, []⟩ (.slice none 0 0) (.slice none 0 0) (.slice none 0 0)) [] [.int .i64 0, .int .i64 0, .slice none 0 0, .string ⟨#[]⟩, .int .i64 0, .slice none 0 0, .int .u8 0, .int .u8 0, .int .u8 0, .int .u8 0, .int .u8 0, .int .u8 0, .int .u8 0, .int .u8 0, .int .u8 0, .int .u8 0, .int .u8 0, .int .u8 0, .int .u8 0, .int .u8 0, .int .u8 0, .int .u8 0, .int .u8 0, .int .u8 0, .int .u8 0, .int .u8 0, .int .u8 0, .int .u8 0, .int .u8 0, .int .u8 0, .int .u8 0, .int .u8 0, .int .u8 0, .int .u8 0, .int .u8 0, .int .u8 0, .int .u8 0, .int .u8 0, .slice none 0 0] [] rfl rfl rfl 46 (by kernel_rfl) (one_ansT _ _ _ _ rfl rfl rfl)
      refine tr_last (w1 := wF) rfl (by rfl) rfl (by kernel_rfl) (run_op_store rfl ?_ ?_ hrF) ?_
      · rfl
      · rfl
      refine NoPanic.normal ?_
      exact key x1 x2 gq wF ⟨s1, s2, HP1, HP2, hz1, hz2, (hK5).store hXF (by simpa using BF) (by have := (hK5).ph; omega)⟩
  intro x1 x2 q wx hkey
  obtain ⟨s1, s2, HP1, HP2, hz1, hz2, hK⟩ := hkey
  have hqw : w2.heap.size ≤ q := by have := hK.ph; omega
  have hEx : Ext w wx := Exc.ext hE2 hK.xe (by omega)
  have hDx : Blk wx w.heap.size 46 #[.int .i64 0, .int .i64 0, .slice none 0 0, .string ⟨#[]⟩, .int .i64 0, .slice none 0 0, .int .u8 0, .int .u8 0, .int .u8 0, .int .u8 0, .int .u8 0, .int .u8 0, .int .u8 0, .int .u8 0, .int .u8 0, .int .u8 0, .int .u8 0, .int .u8 0, .int .u8 0, .int .u8 0, .int .u8 0, .int .u8 0, .int .u8 0, .int .u8 0, .int .u8 0, .int .u8 0, .int .u8 0, .int .u8 0, .int .u8 0, .int .u8 0, .int .u8 0, .int .u8 0, .int .u8 0, .int .u8 0, .int .u8 0, .int .u8 0, .int .u8 0, .int .u8 0, .slice none 0 0] := hK.xe.blk hD2 (.inl (by omega))
  have hgp := hK.gp
  have hpq := hK.ph
  clear hP0 hE2 hD2
  have bp0 := hK.rp.cell 0 (v := .pointer (some ⟨g, 0, none⟩)) rfl
  have hls := listH_any hK.rd hK.rp hgp
  have hqx : q < wx.heap.size := hK.rs.lt
  go_upto_region 4 with (go_at_call 103; (with_reducible refine hls.mono ?_); rintro e w6 ⟨rows, s3, b, hp3, hrn, hrl, rfl, hQ, hR6, hX6⟩; have HP3 := Lib.hid hp3; clear hp3 hls; obtain ⟨A9, c9, rfl⟩ := hQ.val; have hK6 := hK.exc hR6 hX6; have cz := hK6.rs.cell 2 (v := .slice none 0 0) rfl; have cf := hK6.rs.frozen 2)
  have hg6 : g ≤ w6.heap.size := by have := hX6.size; omega
  have hK7 : RSt w2 (w6.setCell ⟨q, 2, none⟩ (.slice A9 rows.length c9)) (w.heap.size + 1) g p q 46 (ansA ⟨x1, x2, rows, zTok, []⟩ (.slice A9 rows.length c9) (.slice none 0 0) (.slice none 0 0)) s3 := hK6.put 2 (.slice A9 rows.length c9) hqw
  have hX7 := set_exc w6 q 2 (.slice A9 rows.length c9)
  have hQ7 := hQ.exc hX7 hqx (.inl (by omega)) hg6
  have hE7 : Ext w (w6.setCell ⟨q, 2, none⟩ (.slice A9 rows.length c9)) := Exc.ext (Exc.ext hEx hX6 (by omega)) hX7 (by omega)
  have hD7 := hX7.blk (hX6.blk hDx (.inl (by omega))) (.inl (by omega))
  generalize w6.setCell ⟨q, 2, none⟩ (.slice A9 rows.length c9) = w7 at *
  obtain ⟨b1, hb1⟩ : ∃ b, wx.heap.size = b := ⟨_, rfl⟩
  rw [hb1] at hQ7 hqx
  have hs7 : b1 ≤ w7.heap.size := by rw [← hb1]; exact Nat.le_trans hX6.size hX7.size
  clear cz cf hK6 hR6 hX6 hK bp0 hX7 hQ hEx hDx hg6 hb1
  have htr := tread_any hK7.rd
  unfold TokRdP at htr
  have bp1 := hK7.rp.cell 0 (v := .pointer (some ⟨g, 0, none⟩)) rfl
  go_upto_region 5 with (first | (go_at_call 88; (with_reducible refine htr.mono ?_); rintro e w8 ⟨t, s4, a, hp4, htb, rfl, hG8, hR8, hX8⟩; have HP4 := Lib.hid hp4; have hK8 := hK7.exc hR8 hX8; have hat : a.oneCell' = true := (by obtain ⟨_, _, rfl, _⟩ := hG8; rfl); obtain ⟨w9, hr9, B9, hX9⟩ := store_part hK8.rs 3 (tokA t a) [.int .i64 x1, .int .i64 x2, .slice A9 rows.length c9] (tokA zTok (.slice none 0 0)).toList [.slice none 0 0] rfl rfl rfl 26 (by kernel_rfl) (one_tok _ _ hat); clear hp4 htr) | (refine wpList_store_by rfl rfl ?_ ?_ hr9 ?_; (· rfl); (· rfl)))
  have B9 : Blk w9 q 46 (ansA ⟨x1, x2, rows, t, []⟩ (.slice A9 rows.length c9) a (.slice none 0 0)) := B9
  have hK9 := hK8.store hX9 B9 hqw
  have hQ9 := (hQ7.exc hX8 (by omega) (.inl (Nat.le_refl _)) (by omega)).exc hX9 (by omega) (.inl (by omega)) (by have := hX8.size; omega)
  have hE9 : Ext w w9 := Exc.ext (Exc.ext hE7 hX8 (by omega)) hX9 (by omega)
  have hD9 := hX9.blk (hX8.blk hD7 (.inl (by omega))) (.inl (by omega))
  obtain ⟨l1, hl1⟩ : ∃ z, w7.heap.size = z := ⟨_, rfl⟩
  obtain ⟨h1, hh1⟩ : ∃ z, w8.heap.size = z := ⟨_, rfl⟩
  have hs8 : l1 ≤ h1 := by rw [← hl1, ← hh1]; exact hX8.size
  have hs9 : h1 ≤ w9.heap.size := by rw [← hh1]; exact hX9.size
  rw [hl1, hh1] at hG8
  rw [hl1] at hs7
  have hG9 : GsV (only w9 l1 h1) t.gs a := by
    rw [hX9.only (by omega) (.inr (by omega))]
    exact hG8
  clear hr9 B9 hX9 hK8 hX8 hR8 hG8 hK7 bp1 hQ7 hE7 hD7 hl1 hh1
  have bp2 := hK9.rp.cell 0 (v := .pointer (some ⟨g, 0, none⟩)) rfl
  have hle := listE_any hK9.rd hK9.rp hgp
  go_upto_region 6 with (go_at_call 105; (with_reducible refine hle.mono ?_); rintro e w10 ⟨es, s5, be, hp5, hen, hel, rfl, hZ, hR10, hX10⟩; have HP5 := Lib.hid hp5; clear hp5 hle; obtain ⟨A8, c8, rfl⟩ := hZ.val; have hK10 := hK9.exc hR10 hX10; have cz := hK10.rs.cell 38 (v := .slice none 0 0) rfl; have cf := hK10.rs.frozen 38)
  have hK11 : RSt w2 (w10.setCell ⟨q, 38, none⟩ (.slice A8 es.length c8)) (w.heap.size + 1) g p q 46 (ansA ⟨x1, x2, rows, t, es⟩ (.slice A9 rows.length c9) a (.slice A8 es.length c8)) s5 := hK10.put 38 (.slice A8 es.length c8) hqw
  have hX11 := set_exc w10 q 38 (.slice A8 es.length c8)
  have hs10 : w9.heap.size ≤ w10.heap.size := hX10.size
  have hs11 : w10.heap.size ≤ (w10.setCell ⟨q, 38, none⟩ (.slice A8 es.length c8)).heap.size := hX11.size
  have hQ11 := (hQ9.exc hX10 (by omega) (.inl (Nat.le_refl _)) (by omega)).exc hX11 (by omega) (.inl (by omega)) (by omega)
  have hZ11 := hZ.exc hX11 (by omega)
  have hG11 : GsV (only (w10.setCell ⟨q, 38, none⟩ (.slice A8 es.length c8)) l1 h1) t.gs a := by
    rw [hX11.only (by omega) (.inr (by omega)), hX10.only (by omega) (.inr (by omega))]
    exact hG9
  have hE11 : Ext w (w10.setCell ⟨q, 38, none⟩ (.slice A8 es.length c8)) := Exc.ext (Exc.ext hE9 hX10 (by omega)) hX11 (by omega)
  have hD11 := hX11.blk (hX10.blk hD9 (.inl (by omega))) (.inl (by omega))
  generalize w10.setCell ⟨q, 38, none⟩ (.slice A8 es.length c8) = w11 at *
  clear cz cf hK10 hR10 hX10 hK9 bp2 hX11 hZ hQ9 hG9 hE9 hD9
  obtain ⟨x, hx⟩ : ∃ x : Ans, (⟨x1, x2, rows, t, es⟩ : Ans) = x := ⟨_, rfl⟩
  have HS : Hid (ansS (l, 0) = (x, s5)) := Lib.hid (by rw [← hx]; exact ans_step HP1.out HP2.out HP3.out HP4.out HP5.out)
  have hxs : x.shown = rows := by rw [← hx]
  have hxt : x.tok.gs = t.gs := by rw [← hx]
  have hxe : x.ents = es := by rw [← hx]
  rw [hx] at hK11
  have HX := Lib.hid (And.intro hxs (And.intro hxt hxe))
  clear HP1 HP2 HP3 HP4 HP5 hx hxs hxt hxe
  have hl11 := load_whole hK11.rs 46 _ Tryz.underlying46 rfl (by kernel_rfl)
  have hen2 := end_S hK11.rd
  have bp3 := hK11.rp.cell 0 (v := .pointer (some ⟨g, 0, none⟩)) rfl
  obtain ⟨ev, hev⟩ : ∃ z, endS s5 = z := ⟨_, rfl⟩
  rw [hev] at hen2
  have HE := Lib.hid hev
  clear hev
  have hql : q < w11.heap.size := hK11.rs.lt
  by_cases he : ev = 0
  · subst he
    obtain ⟨wF, hrF, BF, hXF⟩ := store_part hD11 0 (ansA x (.slice A9 rows.length c9) a (.slice A8 es.length c8)) [] [.int .i64 0, .int .i64 0, .slice none 0 0, .string ⟨#[]⟩, .int .i64 0, .slice none 0 0, .int .u8 0, .int .u8 0, .int .u8 0, .int .u8 0, .int .u8 0, .int .u8 0, .int .u8 0, .int .u8 0, .int .u8 0, .int .u8 0, .int .u8 0, .int .u8 0, .int .u8 0, .int .u8 0, .int .u8 0, .int .u8 0, .int .u8 0, .int .u8 0, .int .u8 0, .int .u8 0, .int .u8 0, .int .u8 0, .int .u8 0, .int .u8 0, .int .u8 0, .int .u8 0, .int .u8 0, .int .u8 0, .int .u8 0, .int .u8 0, .int .u8 0, .int .u8 0, .slice none 0 0] [] rfl rfl rfl 46 (by kernel_rfl) (one_ansT _ _ _ _ rfl hat rfl)
    have BF : Blk wF w.heap.size 46 (ansA x (.slice A9 rows.length c9) a (.slice A8 es.length c8)) := by simpa using BF
    go_upto_region 9 with (go_at_call 94; (with_reducible refine hen2.mono ?_); rintro e w9 ⟨rfl, rfl⟩)
    refine wp_region_lit ?_
    refine pl_y (v := ?_) (a' := ?_) rfl (by rfl) ?_ ?_ ?_
    rotate_left 2
    · (refine (run_op_load rfl ?_ (hl11)).trans ?_; (· rfl); (· with_reducible rfl))
    · simp only [Act.put, zzA, zz0, zzS]; rfl
    refine pl_store (by rfl) rfl (run_op_store rfl ?_ ?_ hrF) ?_
    · rfl
    · rfl
    (first | (refine pl_off (a' := ?_) rfl (by rfl) ?_ ?_; rotate_left 1; (· simp only [Act.put, zzA, zz0, zzS]; rfl)) | (refine pl_y (v := ?_) (a' := ?_) rfl (by rfl) ?_ ?_ ?_; rotate_left 2; (· go_simp; with_reducible rfl); (· simp only [Act.put, zzA, zz0, zzS]; rfl)))
    refine wpList_nil ?_
    go_wp2_with fail
    refine bodyPost_ret (v := .tuple #[.agg (ansA x (.slice A9 rows.length c9) a (.slice A8 es.length c8)), .int .i64 0]) (results_row_tmp (fn := Tryz.f29) rfl _ wF w.heap.size _ _ _ _ rfl BF Tryz.underlying46 rfl (by kernel_rfl) rfl) rfl ?_
    rw [← HP.out]
    have hsF : w11.heap.size ≤ wF.heap.size := hXF.size
    refine getA_full (by unfold getA; rw [HS.out]; simp only [HE.out]; simp) ⟨_, _, _, rfl, ?_, ?_, ?_⟩ (Exc.ext hE11 hXF (Nat.le_refl _))
    · rw [HX.out.1]
      exact (hQ11.exc hXF (by omega) (.inr (Nat.le_refl _)) (by omega)).at_ w.heap.size (by omega) (by omega) (by omega)
    · rw [HX.out.2.1]
      have e : only wF l1 h1 = only w11 l1 h1 := hXF.only (by omega) (.inr (by omega))
      rw [← e] at hG11
      exact hG11.mono (only_wide (by omega) (by omega))
    · rw [HX.out.2.2]
      exact (hZ11.exc hXF (by omega)).at_ w.heap.size (by omega) (fun y hy => (hel y hy).2.2.2.2.2.2.2)
  · have he' : (ev != 0) = true := by simpa using he
    have he2 : (ev == 0) = false := by simpa using he
    obtain ⟨wF, hrF, BF, hXF⟩ := store_part hD11 0 (ansA zAns (.slice none 0 0) (.slice none 0 0) (.slice none 0 0)) [] [.int .i64 0, .int .i64 0, .slice none 0 0, .string ⟨#[]⟩, .int .i64 0, .slice none 0 0, .int .u8 0, .int .u8 0, .int .u8 0, .int .u8 0, .int .u8 0, .int .u8 0, .int .u8 0, .int .u8 0, .int .u8 0, .int .u8 0, .int .u8 0, .int .u8 0, .int .u8 0, .int .u8 0, .int .u8 0, .int .u8 0, .int .u8 0, .int .u8 0, .int .u8 0, .int .u8 0, .int .u8 0, .int .u8 0, .int .u8 0, .int .u8 0, .int .u8 0, .int .u8 0, .int .u8 0, .int .u8 0, .int .u8 0, .int .u8 0, .int .u8 0, .int .u8 0, .slice none 0 0] [] rfl rfl rfl 46 (by kernel_rfl) (one_ansT _ _ _ _ rfl rfl rfl)
    have BF : Blk wF w.heap.size 46 (ansA zAns (.slice none 0 0) (.slice none 0 0) (.slice none 0 0)) := by simpa using BF
    go_upto_region 8 with (go_at_call 94; (with_reducible refine hen2.mono ?_); rintro e w9 ⟨rfl, rfl⟩)
    refine wp_region_lit ?_
    iterate 2 (first | (refine pl_off (a' := ?_) rfl (by rfl) ?_ ?_; rotate_left 1; (· simp only [Act.put, zzA, zz0, zzS]; rfl)) | (refine pl_y (v := ?_) (a' := ?_) rfl (by rfl) ?_ ?_ ?_; rotate_left 2; (· go_simp; with_reducible rfl); (· simp only [Act.put, zzA, zz0, zzS]; rfl)))
    refine pl_store (by rfl) rfl (run_op_store rfl ?_ ?_ hrF) ?_
    · rfl
    · rfl
    (first | (refine pl_off (a' := ?_) rfl (by rfl) ?_ ?_; rotate_left 1; (· simp only [Act.put, zzA, zz0, zzS]; rfl)) | (refine pl_y (v := ?_) (a' := ?_) rfl (by rfl) ?_ ?_ ?_; rotate_left 2; (· go_simp; with_reducible rfl); (· simp only [Act.put, zzA, zz0, zzS]; rfl)))
    refine wpList_nil ?_
    go_wp2_with fail
    refine bodyPost_ret (v := .tuple #[.agg (ansA zAns (.slice none 0 0) (.slice none 0 0) (.slice none 0 0)), .int .i64 ev]) (results_row_tmp (fn := Tryz.f29) rfl _ wF w.heap.size _ _ _ _ rfl BF Tryz.underlying46 rfl (by kernel_rfl) rfl) rfl ?_
    rw [← HP.out]
    exact getA_zero (by unfold getA; rw [HS.out]; simp only [HE.out]; simp [he]) (Exc.ext hE11 hXF (Nat.le_refl _))
end Go.Proofs.YtgfhbachgniipaaGreatDoor

namespace Go.Proofs.YtgfhbachgniipaaGreatDoor
open Go.RowKit
structure TStR (w0 w : World) (lo g h q : Nat) (s : St) (cs : Array Value) : Prop where
  rd : RefS w lo g s
  rs : Blk w h 26 #[.string ⟨#[]⟩, .int .i64 0, .slice none 0 0, .int .u8 0, .int .u8 0, .int .u8 0, .int .u8 0, .int .u8 0, .int .u8 0, .int .u8 0, .int .u8 0, .int .u8 0, .int .u8 0, .int .u8 0, .int .u8 0, .int .u8 0, .int .u8 0, .int .u8 0, .int .u8 0, .int .u8 0, .int .u8 0, .int .u8 0, .int .u8 0, .int .u8 0, .int .u8 0, .int .u8 0, .int .u8 0, .int .u8 0, .int .u8 0, .int .u8 0, .int .u8 0, .int .u8 0, .int .u8 0, .int .u8 0, .int .u8 0]
  tk : Blk w q 26 cs
  lt : g < w0.heap.size
  h0 : w0.heap.size ≤ h
  hq : h < q
  ex : Exc g (g + 1) w0 w
section
variable {w0 w w' : World} {lo g h q : Nat} {s s' : St} {cs : Array Value}
theorem TStR.exc (k : TStR w0 w lo g h q s cs) (hR : RefS w' lo g s') (hX : Exc g (g + 1) w w') : TStR w0 w' lo g h q s' cs := by
  have h1 := k.lt
  have h2 := k.h0
  have h3 := k.hq
  exact ⟨hR, hX.blk k.rs (.inr (by omega)), hX.blk k.tk (.inr (by omega)), k.lt, k.h0, k.hq, k.ex.trans hX⟩
theorem TStR.put (k : TStR w0 w lo g h q s cs) (i : Nat) (v : Value) : TStR w0 (w.setCell ⟨q, i, none⟩ v) lo g h q s (cs.setIfInBounds i v) := by
  have h1 := k.lt
  have h2 := k.h0
  have h3 := k.hq
  have hX : Exc q (q + 1) w (w.setCell ⟨q, i, none⟩ v) := Exc.setCell (p := ⟨q, i, none⟩) (Nat.le_refl _) (Nat.lt_succ_self _) v
  exact ⟨RefAt.exc k.rd hX (.inl (by omega)), hX.blk k.rs (.inl h3), k.tk.set_ i v, k.lt, k.h0, k.hq, k.ex.above hX (by omega)⟩
theorem TStR.store (k : TStR w0 w lo g h q s cs) {cs' : Array Value} (hX : Exc q (q + 1) w w') (hB : Blk w' q 26 cs') : TStR w0 w' lo g h q s cs' := by
  have h1 := k.lt
  have h2 := k.h0
  have h3 := k.hq
  exact ⟨RefAt.exc k.rd hX (.inl (by omega)), hX.blk k.rs (.inl h3), hB, k.lt, k.h0, k.hq, k.ex.above hX (by omega)⟩
theorem TStR.up (k : TStR w0 w lo g h q s cs) (hb : Below (q + 1) w w') : TStR w0 w' lo g h q s cs := by
  have h1 := k.lt
  have h2 := k.h0
  have h3 := k.hq
  have hX : Exc (q + 1) (w'.heap.size + q + 1) w w' := ⟨hb.os, hb.tape, hb.output, hb.size, fun i hi hd => hb.block i (by have := hb.size; omega)⟩
  exact ⟨k.rd.below hb (by omega), (hb.block h (by omega)).trans k.rs, (hb.block q (by omega)).trans k.tk, k.lt, k.h0, k.hq, k.ex.above hX (by omega)⟩
theorem TStR.size (k : TStR w0 w lo g h q s cs) : q + 1 ≤ w.heap.size := k.tk.lt
end
set_option maxHeartbeats 1000000 in
set_option maxRecDepth 100000 in
theorem refBad_any (w : World) (lo g : Nat) (bs : List UInt8) (why : Int) (hR : RefAt w lo g bs why) : Calls Tryz.prog 140 #[.pointer (some ⟨g, 0, none⟩)] w fun e w' => e = .returned (.bool (why != 0)) ∧ w = w' := by
  obtain ⟨B, i, A, c, hB, h1, h2, h3, h4, h5, h6⟩ := hR
  have x2 := hB.cell 2 (v := .int .i64 why) rfl
  clear hB h4 h5 h6
  go_enter Tryz.func140, Tryz.ntmps140
  go_wp2_with fail
  go_ret
  exact ⟨rfl, rfl⟩
set_option maxHeartbeats 9000000 in
set_option maxRecDepth 100000 in
theorem rtread_any {w : World} {lo g : Nat} {s : St} (hR : RefS w lo g s) : Calls Tryz.prog 97 #[.pointer (some ⟨g, 0, none⟩)] w (TokRdP lo g w s RefS) := by
  obtain ⟨W, hW, hE, -⟩ := box1 w #[.string ⟨#[]⟩, .int .i64 0, .slice none 0 0, .int .u8 0, .int .u8 0, .int .u8 0, .int .u8 0, .int .u8 0, .int .u8 0, .int .u8 0, .int .u8 0, .int .u8 0, .int .u8 0, .int .u8 0, .int .u8 0, .int .u8 0, .int .u8 0, .int .u8 0, .int .u8 0, .int .u8 0, .int .u8 0, .int .u8 0, .int .u8 0, .int .u8 0, .int .u8 0, .int .u8 0, .int .u8 0, .int .u8 0, .int .u8 0, .int .u8 0, .int .u8 0, .int .u8 0, .int .u8 0, .int .u8 0, .int .u8 0] 26
  have B : Blk W w.heap.size 26 #[.string ⟨#[]⟩, .int .i64 0, .slice none 0 0, .int .u8 0, .int .u8 0, .int .u8 0, .int .u8 0, .int .u8 0, .int .u8 0, .int .u8 0, .int .u8 0, .int .u8 0, .int .u8 0, .int .u8 0, .int .u8 0, .int .u8 0, .int .u8 0, .int .u8 0, .int .u8 0, .int .u8 0, .int .u8 0, .int .u8 0, .int .u8 0, .int .u8 0, .int .u8 0, .int .u8 0, .int .u8 0, .int .u8 0, .int .u8 0, .int .u8 0, .int .u8 0, .int .u8 0, .int .u8 0, .int .u8 0, .int .u8 0] := by rw [hW]; exact Blk.new _ _ _
  have hg := hR.lt
  have hRW : RefS W lo g s := RefAt.ext hR hE
  have hWs : W.heap.size = w.heap.size + 1 := by rw [hW]; simp
  obtain ⟨P, hP⟩ : ∃ P, TokRdP lo g w s RefS = P := ⟨_, rfl⟩
  rw [hP]
  have HP := Lib.hid hP
  clear hP hR
  go_enter Tryz.func97, Tryz.ntmps97
  go_upto_region 1 with fail
  rw [← hW]
  have HW := Lib.hid hWs
  clear hW hWs
  have ht0 := rtext_S hRW 24 (by decide)
  rw [show ((24 : Nat) : Int) = 24 from rfl] at ht0
  refine wp_region_lit ?_
  (first | (refine pl_off (a' := ?_) rfl (by rfl) ?_ ?_; rotate_left 1; (· simp only [Act.put, zzA, zz0, zzS]; rfl)) | (refine pl_y (v := ?_) (a' := ?_) rfl (by rfl) ?_ ?_ ?_; rotate_left 2; (· go_simp; with_reducible rfl); (· simp only [Act.put, zzA, zz0, zzS]; rfl)))
  refine pl_call (args := ?_) Tryz.func98 (by kernel_rfl) rfl (by rfl) rfl rfl ?_ ?_
  rotate_left 1
  · go_simp; with_reducible rfl
  (with_reducible refine (ht0).mono ?_)
  rintro e w1 ⟨x0, s0, hp0, hz0, rfl, hR1, hX1⟩
  refine ⟨_, _, rfl, (by simp only [Act.put, zzA, zz0, zzS]; rfl), ?_⟩
  have HP0 := Lib.hid hp0
  (first | (refine pl_off (a' := ?_) rfl (by rfl) ?_ ?_; rotate_left 1; (· simp only [Act.put, zzA, zz0, zzS]; rfl)) | (refine pl_y (v := ?_) (a' := ?_) rfl (by rfl) ?_ ?_ ?_; rotate_left 2; (· go_simp; with_reducible rfl); (· simp only [Act.put, zzA, zz0, zzS]; rfl)))
  refine pl_v (v := ?_) (w1 := ?_) (a' := ?_) rfl (by rfl) ?_ ?_ ?_
  rotate_left 3
  · go_simp; refine ⟨?_, ?_⟩ <;> with_reducible rfl
  · simp only [Act.put, zzA, zz0, zzS]; rfl
  obtain ⟨V, hV, hEV, -⟩ := box1 w1 #[.string ⟨#[]⟩, .int .i64 0, .slice none 0 0, .int .u8 0, .int .u8 0, .int .u8 0, .int .u8 0, .int .u8 0, .int .u8 0, .int .u8 0, .int .u8 0, .int .u8 0, .int .u8 0, .int .u8 0, .int .u8 0, .int .u8 0, .int .u8 0, .int .u8 0, .int .u8 0, .int .u8 0, .int .u8 0, .int .u8 0, .int .u8 0, .int .u8 0, .int .u8 0, .int .u8 0, .int .u8 0, .int .u8 0, .int .u8 0, .int .u8 0, .int .u8 0, .int .u8 0, .int .u8 0, .int .u8 0, .int .u8 0] 26
  have BV : Blk V w1.heap.size 26 #[.string ⟨#[]⟩, .int .i64 0, .slice none 0 0, .int .u8 0, .int .u8 0, .int .u8 0, .int .u8 0, .int .u8 0, .int .u8 0, .int .u8 0, .int .u8 0, .int .u8 0, .int .u8 0, .int .u8 0, .int .u8 0, .int .u8 0, .int .u8 0, .int .u8 0, .int .u8 0, .int .u8 0, .int .u8 0, .int .u8 0, .int .u8 0, .int .u8 0, .int .u8 0, .int .u8 0, .int .u8 0, .int .u8 0, .int .u8 0, .int .u8 0, .int .u8 0, .int .u8 0, .int .u8 0, .int .u8 0, .int .u8 0] := by rw [hV]; exact Blk.new _ _ _
  rw [← hV]
  have hX12 := (Ext.exc hE).trans hX1
  have hw2 : W.heap.size ≤ w1.heap.size := hX1.size
  rw [HW.out] at hw2
  obtain ⟨V2, hr, BV2, hXV⟩ := store_part BV 0 (tokA ⟨x0, 0, [], zMac⟩ (.slice none 0 0)) [] [.string ⟨#[]⟩, .int .i64 0, .slice none 0 0, .int .u8 0, .int .u8 0, .int .u8 0, .int .u8 0, .int .u8 0, .int .u8 0, .int .u8 0, .int .u8 0, .int .u8 0, .int .u8 0, .int .u8 0, .int .u8 0, .int .u8 0, .int .u8 0, .int .u8 0, .int .u8 0, .int .u8 0, .int .u8 0, .int .u8 0, .int .u8 0, .int .u8 0, .int .u8 0, .int .u8 0, .int .u8 0, .int .u8 0, .int .u8 0, .int .u8 0, .int .u8 0, .int .u8 0, .int .u8 0, .int .u8 0, .int .u8 0] [] rfl rfl rfl 26 (by kernel_rfl) (one_tok _ _ rfl)
  have BV2 : Blk V2 w1.heap.size 26 (tokA ⟨x0, 0, [], zMac⟩ (.slice none 0 0)) := by simpa using BV2
  have hT0 : TStR w V2 lo g w.heap.size w1.heap.size s0 (tokA ⟨x0, 0, [], zMac⟩ (.slice none 0 0)) :=
    ⟨RefAt.exc (RefAt.ext hR1 hEV) hXV (.inl (by have := hR1.lt; omega)), hXV.blk (((hX1.blk B (.inr hg))).ext hEV) (.inl (by omega)), BV2, hg, Nat.le_refl _, by omega, (hX12.trans (Ext.exc hEV)).above hXV (by omega)⟩
  refine pl_store (by rfl) rfl (run_op_store rfl ?_ ?_ hr) ?_
  · rfl
  · rfl
  clear hV hEV BV hX12 BV2 hXV hr hp0 ht0 hR1 hX1 hRW B hE
  generalize w1.heap.size = q at *
  refine wpList_nil ?_
  have hi1 := rint_S hT0.rd
  go_upto_region 3 with (go_at_call 96; (with_reducible refine hi1.mono ?_); rintro e w2 ⟨x1, s1, hp1, hz1, rfl, hR2, hX2⟩; have HP1 := Lib.hid hp1; clear hp1; have hTa := hT0.exc hR2 hX2; have tc := hTa.tk.cell 1 (v := .int .i64 0) rfl; have tf := hTa.tk.frozen 1)
  have hTb : TStR w (w2.setCell ⟨q, 1, none⟩ (.int .i64 x1)) lo g w.heap.size q s1 (tokA ⟨x0, x1, [], zMac⟩ (.slice none 0 0)) := hTa.put 1 _
  generalize w2.setCell ⟨q, 1, none⟩ (.int .i64 x1) = w2b at *
  clear tc tf hTa hT0 hR2 hX2 hi1
  have hct := rcount_S hTb.rd 6
  rw [show ((6 : Nat) : Int) = 6 from rfl] at hct
  go_wp2_with (go_at_call 99; (with_reducible refine hct.mono ?_); rintro e w3 ⟨m, s3, hp3, hm, rfl, hR3, hX3⟩; have HP3 := Lib.hid hp3; clear hp3)
  have hT1 := hTb.exc hR3 hX3
  clear hct hTb hR3 hX3
  go_loopw [5] (fun i wr => ∃ (k : Nat) (v : Value) (rows : List Grant) (sk : St), k ≤ m ∧ i = .int .i64 k ∧ Hid (manyS grS k s3 = (rows, sk)) ∧ TStR w wr lo g w.heap.size q sk (tokA ⟨x0, x1, [], zMac⟩ v) ∧ wr.ownsRow (q + 1) 29 4 v k (rows.flatMap fun x => (grA x).toList) ∧ Hid (rows.length = k) ∧ (∀ x ∈ rows, x.p.size ≤ 24 ∧ intOk x.r ∧ intOk x.u)) (fun i _ => m - (intOf i).toNat)
  case atStart => exact ⟨0, _, [], s3, by omega, rfl, Lib.hid rfl, hT1, World.ownsRow_nil _ _ _ _, Lib.hid rfl, (fun x hx => by cases hx)⟩
  case round =>
    clear hT1
    obtain ⟨k, v, rows, sk, hkm, rfl, HB, hT, hown, HL, hel⟩ := hrel
    by_cases hlt : k < m
    · have hi := rint_S hT.rd
      go_upto_region 8 with (go_at_call 96; (with_reducible refine hi.mono ?_); rintro e w6 ⟨gx, s4, hp4, hz4, rfl, hR4, hX4⟩; have HP4 := Lib.hid hp4; clear hp4 hi)
      have hT6 := hT.exc hR4 hX4
      have hq6 : q + 1 ≤ w6.heap.size := hT6.size
      have hb7 : Below (q + 1) w6 (w6.alloc (.cells #[.int .i64 gx, .string ⟨#[]⟩, .bool false, .int .i64 0] 29)) := (Below.refl _ _).alloc hq6 _
      have hT7 := hT6.up hb7
      have B7 := Blk.new w6 29 #[.int .i64 gx, .string ⟨#[]⟩, .bool false, .int .i64 0]
      have hXb : Exc g (g + 1) wr (w6.alloc (.cells #[.int .i64 gx, .string ⟨#[]⟩, .bool false, .int .i64 0] 29)) := hX4.trans (Ext.exc ((Ext.refl _).alloc _))
      have hwr6 : wr.heap.size ≤ w6.heap.size := hX4.size
      clear hT hR4 hX4 hb7 hT6
      generalize w6.alloc (.cells #[.int .i64 gx, .string ⟨#[]⟩, .bool false, .int .i64 0] 29) = w7 at *
      generalize w6.heap.size = p6 at *
      have hgq : g < p6 := by have := hT7.lt; have := hT7.h0; have := hT7.hq; omega
      have ht5 := rtext_S hT7.rd 24 (by decide)
      rw [show ((24 : Nat) : Int) = 24 from rfl] at ht5
      go_upto_region 9 with (go_at_call 98; (with_reducible refine ht5.mono ?_); rintro e w8 ⟨gp, s5, hp5, hz5, rfl, hR5, hX5⟩; have HP5 := Lib.hid hp5; clear hp5 ht5; have B8 := hX5.blk B7 (.inr hgq); have bc := B8.cell 1 (v := .string ⟨#[]⟩) rfl; have bf := B8.frozen 1)
      have hTA := ((hT7).exc hR5 hX5).up (Below.setCell (p := ⟨p6, 1, none⟩) (Below.refl (q + 1) w8) (by show q + 1 ≤ p6; omega) (.string gp))
      have BA := (B8).set_ 1 (.string gp)
      have hXA := ((hXb).trans hX5).above (Exc.setCell (lo := p6) (hi := p6 + 1) (w := w8) (p := ⟨p6, 1, none⟩) (Nat.le_refl _) (Nat.lt_succ_self _) (.string gp)) hwr6
      generalize (w8).setCell ⟨p6, 1, none⟩ (.string gp) = wA at *
      simp only [zzA, zz0, zzS] at BA
      have hc6 := rcount_S hTA.rd 1
      rw [show ((1 : Nat) : Int) = 1 from rfl] at hc6
      clear bc bf
      go_upto_region 10 with (go_at_call 99; (with_reducible refine hc6.mono ?_); rintro e w9 ⟨gn, s6, hp6, hz6, rfl, hR6, hX6⟩; have HP6 := Lib.hid hp6; clear hp6 hc6; have B9 := hX6.blk BA (.inr hgq); have bc := B9.cell 2 (v := .bool false) rfl; have bf := B9.frozen 2)
      have hTB := ((hTA).exc hR6 hX6).up (Below.setCell (p := ⟨p6, 2, none⟩) (Below.refl (q + 1) w9) (by show q + 1 ≤ p6; omega) (.bool ((gn : Int) == 1)))
      have BB := (B9).set_ 2 (.bool ((gn : Int) == 1))
      have hXB := ((hXA).trans hX6).above (Exc.setCell (lo := p6) (hi := p6 + 1) (w := w9) (p := ⟨p6, 2, none⟩) (Nat.le_refl _) (Nat.lt_succ_self _) (.bool ((gn : Int) == 1))) hwr6
      generalize (w9).setCell ⟨p6, 2, none⟩ (.bool ((gn : Int) == 1)) = wB at *
      simp only [zzA, zz0, zzS] at BB
      have hi7 := rint_S hTB.rd
      clear bc bf
      go_upto_region 11 with (go_at_call 96; (with_reducible refine hi7.mono ?_); rintro e w10 ⟨gu, s7, hp7, hz7, rfl, hR7, hX7⟩; have HP7 := Lib.hid hp7; clear hp7 hi7; have B10 := hX7.blk BB (.inr hgq); have bc := B10.cell 3 (v := .int .i64 0) rfl; have bf := B10.frozen 3)
      have hT9 := ((hTB).exc hR7 hX7).up (Below.setCell (p := ⟨p6, 3, none⟩) (Below.refl (q + 1) w10) (by show q + 1 ≤ p6; omega) (.int .i64 gu))
      have BC := (B10).set_ 3 (.int .i64 gu)
      have hXc := ((hXB).trans hX7).above (Exc.setCell (lo := p6) (hi := p6 + 1) (w := w10) (p := ⟨p6, 3, none⟩) (Nat.le_refl _) (Nat.lt_succ_self _) (.int .i64 gu)) hwr6
      generalize (w10).setCell ⟨p6, 3, none⟩ (.int .i64 gu) = w9' at *
      simp only [zzA, zz0, zzS] at BC
      have B9 : Blk w9' p6 29 (grA ⟨gx, gp, isOne gn, gu⟩) := BC
      have hown9 := own_exc hown hXc (by have := hT9.lt; have := hT9.h0; have := hT9.hq; omega)
      have hl := load_whole B9 29 _ Tryz.underlying29 rfl (by kernel_rfl)
      have c2 := hT9.tk.cell 2 (v := v) rfl
      have hstep := gr_step HP4.out HP5.out HP6.out HP7.out
      obtain ⟨x, hx⟩ : ∃ x : Grant, x = ⟨gx, gp, isOne gn, gu⟩ := ⟨_, rfl⟩
      rw [← hx] at hl hstep
      have hxb : x.p.size ≤ 24 ∧ intOk x.r ∧ intOk x.u := by rw [hx]; exact ⟨hz5, hz4, hz7⟩
      have HST := Lib.hid hstep
      have hfo := fold_all (Z := Value.cells (.agg #[.int .i64 0, .string ⟨#[]⟩, .bool false, .int .i64 0])) (C := grA x) (n := 4) (by decide) rfl rfl
      simp only [Value.cells] at hfo
      have h1 := one_gr x
      have hsz : (grA x).size = 4 := rfl
      have hq9 : q + 1 ≤ w9'.heap.size := hT9.size
      generalize hCC : grA x = C at hl hfo h1 hsz
      have HCC := Lib.hid hCC
      clear hT7 hTA hTB B7 B8 BA BB B9 B10 BC hXb hXA hXB hXc hown hX7 hR7 bc bf hx hstep hCC
      go_wp2_with (first | (refine wpList_load_by rfl rfl ?_ hl ?_; (· rfl)) | (at_builtin; refine wpList_append_cells (news := C.toList) rfl elt_Grants (.tmp 34) (.tmp 36) rfl (hown9.alloc _) rfl rfl ?c0 ?c1 ?c2 ?c3 ?c4 ?_))
      case c0 => exact ⟨by simp [hsz], (fun h => by cases h), fun ad h j u hu => (by cases h; exact new_cells w9' _ C j u hu)⟩
      case c1 => exact h1
      case c2 => unfold maxLen; omega
      case c3 => omega
      case c4 => simp; omega
      intro v' w10 hown' hgrow
      have hb10 : Below (q + 1) w9' (w9'.alloc (.cells C 29)) := (Below.refl _ _).alloc hq9 _
      have hT10 := hT9.up (below_grown hb10 (by simp; omega) (hown9.alloc _) hgrow (Nat.le_refl _))
      obtain ⟨A7, c7, rfl⟩ := own_val hown'
      have d2 := hT10.tk.cell 2 (v := v) rfl
      have g2 := hT10.tk.frozen 2
      have hT11 := hT10.put 2 (.slice A7 (k + 1) c7)
      have hown11 := own_set hown' (p := ⟨q, 2, none⟩) (Nat.lt_succ_self q) (.slice A7 (k + 1) c7)
      clear hgrow hown' hown9 hT9 hl c2 h1 hfo hb10
      have hT11 : TStR w (w10.setCell ⟨q, 2, none⟩ (.slice A7 (k + 1) c7)) lo g w.heap.size q s7 (tokA ⟨x0, x1, [], zMac⟩ (.slice A7 (k + 1) c7)) := hT11
      go_wp2_with fail
      generalize w10.setCell ⟨q, 2, none⟩ (.slice A7 (k + 1) c7) = w11 at *
      have hrel : Hid (manyS grS (k + 1) s3 = (rows ++ [x], s7)) := Lib.hid (by rw [manyS, HB.out]; simp only [HST.out])
      have hrow : w11.ownsRow (q + 1) 29 4 (.slice A7 (k + 1) c7) (k + 1) ((rows ++ [x]).flatMap fun x => (grA x).toList) := by
        rw [List.flatMap_append]
        simpa [HCC.out] using hown11
      have hlen : Hid ((rows ++ [x]).length = k + 1) := Lib.hid (by rw [List.length_append, HL.out]; rfl)
      have hel2 : ∀ y ∈ rows ++ [x], y.p.size ≤ 24 ∧ intOk y.r ∧ intOk y.u := fun y hy => by
        rcases List.mem_append.1 hy with hy | hy
        · exact hel y hy
        · obtain rfl : y = x := by simpa using hy
          exact hxb
      clear hown11 hT10 hel hxb HB HL d2 g2
      go_roundw
      case rel => exact ⟨k + 1, _, rows ++ [x], s7, by omega, by go_num, hrel, hT11, hrow, hlen, hel2⟩
      case measure => simp [intOf]; omega
    · obtain rfl : k = m := by omega
      have hsm := rsum_S hT.rd
      unfold SumP at hsm
      have hraw : ∀ x sF, sumS sk = (x, sF) → tokRawS s = (⟨x0, x1, rows, x⟩, sF) := fun x sF hx => by
        unfold tokRawS pairS listS
        simp only [HP0.out, HP1.out, HP3.out, Int.toNat_natCast, HB.out, hx]
      have HRAW := Lib.hid hraw
      clear hraw
      go_upto_region 12 with fail
      refine wp_region_lit ?_
      (first | (refine pl_off (a' := ?_) rfl (by rfl) ?_ ?_; rotate_left 1; (· simp only [Act.put, zzA, zz0, zzS]; rfl)) | (refine pl_y (v := ?_) (a' := ?_) rfl (by rfl) ?_ ?_ ?_; rotate_left 2; (· go_simp; with_reducible rfl); (· simp only [Act.put, zzA, zz0, zzS]; rfl)))
      refine pl_call (args := ?_) Tryz.func108 (by kernel_rfl) rfl (by rfl) rfl rfl ?_ ?_
      rotate_left 1
      · go_simp; with_reducible rfl
      (with_reducible refine (hsm).mono ?_)
      rintro e w12 ⟨x, sF, hxs, hx32, rfl, hR12, hX12⟩
      refine ⟨_, _, rfl, (by simp only [Act.put, zzA, zz0, zzS]; rfl), ?_⟩
      have hT12 := hT.exc hR12 hX12
      have hown12 := own_exc hown hX12 (by have := hT.lt; have := hT.h0; have := hT.hq; omega)
      obtain ⟨w13, hr13, B13, hX13⟩ := store_part hT12.tk 3 (macA x) [.string x0, .int .i64 x1, v] (macA zMac).toList [] rfl rfl rfl 24 (by kernel_rfl) (by simp [macA, mb, Value.oneCell'])
      have B13 : Blk w13 q 26 (tokA ⟨x0, x1, rows, x⟩ v) := B13
      have hT13 := hT12.store hX13 B13
      have hown13 := own_exc hown12 hX13 (Nat.le_refl _)
      have hraw := HRAW.out x sF hxs
      (first | (refine pl_off (a' := ?_) rfl (by rfl) ?_ ?_; rotate_left 1; (· simp only [Act.put, zzA, zz0, zzS]; rfl)) | (refine pl_y (v := ?_) (a' := ?_) rfl (by rfl) ?_ ?_ ?_; rotate_left 2; (· go_simp; with_reducible rfl); (· simp only [Act.put, zzA, zz0, zzS]; rfl)))
      refine pl_store (by rfl) rfl (run_op_store rfl ?_ ?_ hr13) ?_
      · rfl
      · rfl
      refine wpList_nil ?_
      have hbad := refBad_any w13 lo g sF.1 sF.2 hT13.rd
      obtain ⟨t, ht⟩ : ∃ t : Tok, (⟨x0, x1, rows, x⟩ : Tok) = t := ⟨_, rfl⟩
      have htb : TokBd t := by rw [← ht]; exact ⟨hz0, hz1, by rw [HL.out]; omega, hel, hx32⟩
      have htg : t.gs = rows := by rw [← ht]
      rw [ht] at B13 hT13 hraw
      obtain ⟨A7, c7, hv7, h7c, -, h7S⟩ := own_onlyM (d := rdGr) (f := grA) (fun _ => rfl) (lo := q + 1) (hi := w13.heap.size) (l := rows) (fun x _ w => gr_K w x) (by rw [HL.out]; exact hown13) (Nat.le_refl _) (Nat.le_refl _)
      have HRW := Lib.hid hraw
      clear hown hown12 hown13 hT hT12 hR12 hX12 hX13 hr13 hsm hraw B13 hel
      by_cases hy : sF.2 = 0
      · have hy1 : (sF.2 != 0) = false := by simpa using hy
        rw [hy1] at hbad
        have hl := load_whole hT13.tk 26 _ Tryz.underlying26 rfl (by kernel_rfl)
        obtain ⟨w14, hr14, B14, hX14⟩ := store_part hT13.rs 0 (tokA t v) [] [.string ⟨#[]⟩, .int .i64 0, .slice none 0 0, .int .u8 0, .int .u8 0, .int .u8 0, .int .u8 0, .int .u8 0, .int .u8 0, .int .u8 0, .int .u8 0, .int .u8 0, .int .u8 0, .int .u8 0, .int .u8 0, .int .u8 0, .int .u8 0, .int .u8 0, .int .u8 0, .int .u8 0, .int .u8 0, .int .u8 0, .int .u8 0, .int .u8 0, .int .u8 0, .int .u8 0, .int .u8 0, .int .u8 0, .int .u8 0, .int .u8 0, .int .u8 0, .int .u8 0, .int .u8 0, .int .u8 0, .int .u8 0] [] rfl rfl rfl 26 (by kernel_rfl) (one_tok _ _ (by rw [hv7]; rfl))
        have B14 : Blk w14 w.heap.size 26 (tokA t v) := by simpa using B14
        go_wp2_with (first | (go_at_call 140; (with_reducible refine hbad.mono ?_); rintro e w9 ⟨rfl, rfl⟩) | (refine wpList_load_by rfl rfl ?_ hl ?_; (· rfl)) | (refine wpList_store_by rfl rfl ?_ ?_ hr14 ?_; (· rfl); (· rfl)))
        refine bodyPost_ret (v := .agg (tokA t v)) (results_cell_row (P := Tryz.prog) (fn := Tryz.f97) rfl _ w14 w.heap.size _ _ _ _ rfl B14 Tryz.underlying26 rfl (by kernel_rfl)) rfl ?_
        rw [← HP.out]
        refine ⟨t, sF, v, by unfold tokS badS; rw [HRW.out]; simp only [hy, if_true], htb, rfl, ?_, RefAt.exc hT13.rd hX14 (.inl hg), hT13.ex.above hX14 (Nat.le_refl _)⟩
        refine ⟨A7, c7, by rw [htg]; exact hv7, by rw [htg]; exact h7c, ?_⟩
        rw [htg]
        have hq13 := hT13.hq
        have e : only w14 (q + 1) w13.heap.size = only w13 (q + 1) w13.heap.size := hX14.only (Nat.le_refl _) (.inr (by omega))
        rw [← e] at h7S
        exact h7S.mono (only_wide (by omega) hX14.size)
      · have hy1 : (sF.2 != 0) = true := by simpa using hy
        rw [hy1] at hbad
        obtain ⟨w14, hr14, B14, hX14⟩ := store_part hT13.rs 0 (tokA zTok (.slice none 0 0)) [] [.string ⟨#[]⟩, .int .i64 0, .slice none 0 0, .int .u8 0, .int .u8 0, .int .u8 0, .int .u8 0, .int .u8 0, .int .u8 0, .int .u8 0, .int .u8 0, .int .u8 0, .int .u8 0, .int .u8 0, .int .u8 0, .int .u8 0, .int .u8 0, .int .u8 0, .int .u8 0, .int .u8 0, .int .u8 0, .int .u8 0, .int .u8 0, .int .u8 0, .int .u8 0, .int .u8 0, .int .u8 0, .int .u8 0, .int .u8 0, .int .u8 0, .int .u8 0, .int .u8 0, .int .u8 0, .int .u8 0, .int .u8 0] [] rfl rfl rfl 26 (by kernel_rfl) (one_tok _ _ rfl)
        have B14 : Blk w14 w.heap.size 26 (tokA zTok (.slice none 0 0)) := by simpa using B14
        go_upto_region 14 with (go_at_call 140; (with_reducible refine hbad.mono ?_); rintro e w9 ⟨rfl, rfl⟩)
        refine wp_region_lit ?_
        (first | (refine pl_off (a' := ?_) rfl (by rfl) ?_ ?_; rotate_left 1; (· simp only [Act.put, zzA, zz0, zzS]; rfl)) | (refine pl_y (v := ?_) (a' := ?_) rfl (by rfl) ?_ ?_ ?_; rotate_left 2; (· go_simp; with_reducible rfl); (· simp only [Act.put, zzA, zz0, zzS]; rfl)))
        refine pl_store (by rfl) rfl (run_op_store rfl ?_ ?_ hr14) ?_
        · rfl
        · rfl
        refine wpList_nil ?_
        go_wp2_with fail
        refine bodyPost_ret (v := .agg (tokA zTok (.slice none 0 0))) (results_cell_row (P := Tryz.prog) (fn := Tryz.f97) rfl _ w14 w.heap.size _ _ _ _ rfl B14 Tryz.underlying26 rfl (by kernel_rfl)) rfl ?_
        rw [← HP.out]
        exact ⟨zTok, sF, _, by unfold tokS badS; rw [HRW.out]; simp only [hy, if_false], zTok_bd, rfl, GsV.nil _, RefAt.exc hT13.rd hX14 (.inl hg), hT13.ex.above hX14 (Nat.le_refl _)⟩
end Go.Proofs.YtgfhbachgniipaaGreatDoor

namespace Go.Proofs.YtgfhbachgniipaaGreatDoor
open Go.RowKit
structure Holes (g q : Nat) (w w' : World) : Prop where
  os : w'.os = w.os
  tape : w'.tape = w.tape
  output : w'.output = w.output
  size : w.heap.size ≤ w'.heap.size
  block : ∀ k, k < w.heap.size → k ≠ g → k ≠ q → w'.heap[k]? = w.heap[k]?
section
variable {g q : Nat} {a b c : World}
theorem Holes.refl (g q : Nat) (w : World) : Holes g q w w := ⟨rfl, rfl, rfl, Nat.le_refl _, fun _ _ _ _ => rfl⟩
theorem Holes.trans (h : Holes g q a b) (k : Holes g q b c) : Holes g q a c :=
  ⟨k.os.trans h.os, k.tape.trans h.tape, k.output.trans h.output, Nat.le_trans h.size k.size, fun i hi h1 h2 => (k.block i (Nat.lt_of_lt_of_le hi h.size) h1 h2).trans (h.block i hi h1 h2)⟩
theorem Holes.excg (h : Exc g (g + 1) a b) : Holes g q a b := ⟨h.os, h.tape, h.output, h.size, fun i hi h1 h2 => h.block i hi (by omega)⟩
theorem Holes.excq (h : Exc q (q + 1) a b) : Holes g q a b := ⟨h.os, h.tape, h.output, h.size, fun i hi h1 h2 => h.block i hi (by omega)⟩
theorem Holes.ext_ {w : World} (hE : Ext w a) (h : Holes g q a b) (hg : w.heap.size ≤ g) (hq : w.heap.size ≤ q) : Ext w b :=
  ⟨h.os.trans hE.os, h.tape.trans hE.tape, h.output.trans hE.output, Nat.le_trans hE.size h.size, fun i hi => (h.block i (Nat.lt_of_lt_of_le hi hE.size) (by omega) (by omega)).trans (hE.block i hi)⟩
theorem Holes.blk (h : Holes g q a b) {i : Nat} {t : TypeId} {cs : Array Value} (hb : Blk a i t cs) (h1 : i ≠ g) (h2 : i ≠ q) : Blk b i t cs := (h.block i hb.lt h1 h2).trans hb
theorem Holes.only {l h : Nat} (k : Holes g q a b) (hh : h ≤ a.heap.size) (h1 : g < l) (h2 : q < l) : only b l h = only a l h :=
  only_keep fun i hl hi => k.block i (by omega) (by omega) (by omega)
end
structure QSt (W0 w : World) (lo g q : Nat) (T : TypeId) (cs : Array Value) (s : St) : Prop where
  rd : RefS w lo g s
  rs : Blk w q T cs
  gq : g < q
  bl : Holes g q W0 w
section
variable {W0 w w' : World} {lo g q : Nat} {T : TypeId} {cs cs' : Array Value} {s s' : St}
theorem QSt.exc (k : QSt W0 w lo g q T cs s) (hR : RefS w' lo g s') (hX : Exc g (g + 1) w w') : QSt W0 w' lo g q T cs s' :=
  ⟨hR, hX.blk k.rs (.inr k.gq), k.gq, k.bl.trans (.excg hX)⟩
theorem QSt.store (k : QSt W0 w lo g q T cs s) (hX : Exc q (q + 1) w w') (hB : Blk w' q T cs') : QSt W0 w' lo g q T cs' s := by
  have hb : Below q w w' := ⟨hX.os, hX.tape, hX.output, hX.size, fun i hi => hX.block i (by have := k.rs.lt; omega) (.inl hi)⟩
  exact ⟨k.rd.below hb k.gq, hB, k.gq, k.bl.trans (.excq hX)⟩
theorem QSt.put (k : QSt W0 w lo g q T cs s) (i : Nat) (v : Value) : QSt W0 (w.setCell ⟨q, i, none⟩ v) lo g q T (cs.setIfInBounds i v) s :=
  k.store (set_exc w q i v) (k.rs.set_ i v)
theorem QSt.up (k : QSt W0 w lo g q T cs s) (hb : Below W0.heap.size w w') (hq : q < W0.heap.size) : QSt W0 w' lo g q T cs s :=
  ⟨k.rd.below hb (by have := k.gq; omega), (hb.block q hq).trans k.rs, k.gq, ⟨hb.os.trans k.bl.os, hb.tape.trans k.bl.tape, hb.output.trans k.bl.output, Nat.le_trans k.bl.size hb.size, fun i hi h1 h2 => (hb.block i hi).trans (k.bl.block i hi h1 h2)⟩⟩
theorem QSt.drew (k : QSt W0 w lo g q T cs s) : QSt W0 w.drew lo g q T cs s := by
  have hb : Below w.heap.size w w.drew := (Below.refl _ _).drew
  exact ⟨k.rd.below hb k.rd.lt, k.rs, k.gq, ⟨k.bl.os, k.bl.tape, k.bl.output, k.bl.size, k.bl.block⟩⟩
theorem QSt.size (k : QSt W0 w lo g q T cs s) : q + 1 ≤ w.heap.size := k.rs.lt
theorem QSt.rebase (k : QSt W0 w lo g q T cs s) : QSt w w lo g q T cs s := ⟨k.rd, k.rs, k.gq, Holes.refl _ _ _⟩
theorem rtext24c (hR : RefS w lo g s) : Calls Tryz.prog 98 #[.pointer (some ⟨g, 0, none⟩), .int .i64 24] w fun e w' => ∃ x s', textS 24 s = (x, s') ∧ x.size ≤ 24 ∧ e = .returned (.string x) ∧ RefS w' lo g s' ∧ Exc g (g + 1) w w' := rtext_S hR 24 (by decide)
theorem rcount1 (hR : RefS w lo g s) : Calls Tryz.prog 99 #[.pointer (some ⟨g, 0, none⟩), .int .i64 1] w fun e w' => ∃ (n : Nat) (s' : St), countS 1 s = ((n : Int), s') ∧ n ≤ 1 ∧ e = .returned (.int .i64 n) ∧ RefS w' lo g s' ∧ Exc g (g + 1) w w' := rcount_S hR 1
theorem rcount4 (hR : RefS w lo g s) : Calls Tryz.prog 99 #[.pointer (some ⟨g, 0, none⟩), .int .i64 4] w fun e w' => ∃ (n : Nat) (s' : St), countS 4 s = ((n : Int), s') ∧ n ≤ 4 ∧ e = .returned (.int .i64 n) ∧ RefS w' lo g s' ∧ Exc g (g + 1) w w' := rcount_S hR 4
theorem rcount64 (hR : RefS w lo g s) : Calls Tryz.prog 99 #[.pointer (some ⟨g, 0, none⟩), .int .i64 64] w fun e w' => ∃ (n : Nat) (s' : St), countS 64 s = ((n : Int), s') ∧ n ≤ 64 ∧ e = .returned (.int .i64 n) ∧ RefS w' lo g s' ∧ Exc g (g + 1) w w' := rcount_S hR 64
theorem rblob256 (hR : RefS w lo g s) : Calls Tryz.prog 100 #[.pointer (some ⟨g, 0, none⟩), .int .i64 256] w fun e w' => ∃ (u : Value) (p : List UInt8) (s' : St), blobS 256 s = (p, s') ∧ p.length ≤ 256 ∧ e = .returned u ∧ w'.ownsRow w.heap.size 5 1 u p.length (p.flatMap encB) ∧ RefS w' lo g s' ∧ Exc g (g + 1) w w' := rblob_S hR 256 (by decide)
end
def CAt (q i : Nat) (v : Value) (w : World) : Prop := w.cell? ⟨q, i, none⟩ = some v
def RGetC (w : World) (b : List UInt8) (e : Ending) (w' : World) : Prop := ∃ C, e = .returned (.tuple #[.agg C, .int .i64 (getC b).2]) ∧ CmdAt (only w' w.heap.size w'.heap.size) (getC b).1 C ∧ Ext w w'
theorem rgetC_zero {w w' : World} {b : List UInt8} {v : Int} (h : getC b = (zCmd, v)) (hE : Ext w w') : RGetC w b (.returned (.tuple #[.agg (cmdA zCmd (.slice none 0 0) (.slice none 0 0)), .int .i64 v])) w' := by
  unfold RGetC
  rw [h]
  exact ⟨_, rfl, ⟨_, _, rfl, GsV.nil _, BsV.nil _⟩, hE⟩
theorem rgetC_full {w w' : World} {l : List UInt8} {c : Cmd} {C : Array Value} (h : getC l = (c, 0)) (hi : CmdAt (only w' w.heap.size w'.heap.size) c C) (hE : Ext w w') : RGetC w l (.returned (.tuple #[.agg C, .int .i64 0])) w' := by
  unfold RGetC
  rw [h]
  exact ⟨_, rfl, hi, hE⟩
set_option maxHeartbeats 9000000 in
set_option maxRecDepth 100000 in
theorem rcget_any (w : World) (A : Option Addr) (c : Nat) (l : List UInt8) (hS : Rd.u8.Sl w A l.length l) (hc : l.length ≤ c) (hn : l.length ≤ 4294967296) :
    Calls Tryz.prog 28 #[.slice A l.length c] w (RGetC w l) := by
  obtain ⟨P, hP⟩ : ∃ P, RGetC w l = P := ⟨_, rfl⟩
  rw [hP]
  have HP := Lib.hid hP
  clear hP
  have hrd := fun (w' : World) (h : Ext w w') => rread_any w' A c l (hS.ext h) hc hn
  obtain ⟨n, hln⟩ : ∃ n, l.length = n := ⟨_, rfl⟩
  rw [hln] at hrd hc hn ⊢
  clear hS
  obtain ⟨W, hW, hE, -⟩ := box1 w #[.int .i64 0, .string ⟨#[]⟩, .int .i64 0, .slice none 0 0, .int .u8 0, .int .u8 0, .int .u8 0, .int .u8 0, .int .u8 0, .int .u8 0, .int .u8 0, .int .u8 0, .int .u8 0, .int .u8 0, .int .u8 0, .int .u8 0, .int .u8 0, .int .u8 0, .int .u8 0, .int .u8 0, .int .u8 0, .int .u8 0, .int .u8 0, .int .u8 0, .int .u8 0, .int .u8 0, .int .u8 0, .int .u8 0, .int .u8 0, .int .u8 0, .int .u8 0, .int .u8 0, .int .u8 0, .int .u8 0, .int .u8 0, .int .u8 0, .string ⟨#[]⟩, .string ⟨#[]⟩, .int .i64 0, .slice none 0 0, .int .i64 0, .int .i64 0, .int .i64 0, .string ⟨#[]⟩, .bool false, .int .i64 0, .int .i64 0] 31
  have B : Blk W w.heap.size 31 #[.int .i64 0, .string ⟨#[]⟩, .int .i64 0, .slice none 0 0, .int .u8 0, .int .u8 0, .int .u8 0, .int .u8 0, .int .u8 0, .int .u8 0, .int .u8 0, .int .u8 0, .int .u8 0, .int .u8 0, .int .u8 0, .int .u8 0, .int .u8 0, .int .u8 0, .int .u8 0, .int .u8 0, .int .u8 0, .int .u8 0, .int .u8 0, .int .u8 0, .int .u8 0, .int .u8 0, .int .u8 0, .int .u8 0, .int .u8 0, .int .u8 0, .int .u8 0, .int .u8 0, .int .u8 0, .int .u8 0, .int .u8 0, .int .u8 0, .string ⟨#[]⟩, .string ⟨#[]⟩, .int .i64 0, .slice none 0 0, .int .i64 0, .int .i64 0, .int .i64 0, .string ⟨#[]⟩, .bool false, .int .i64 0, .int .i64 0] := by rw [hW]; exact Blk.new _ _ _
  have hWs : W.heap.size = w.heap.size + 1 := by rw [hW]; simp
  go_enter Tryz.func28, Tryz.ntmps28
  go_upto_region 1 with fail
  rw [← hW]
  clear hW
  go_upto_region 3 with (go_at_call 95; (with_reducible refine (hrd _ hE).mono ?_); rintro e w1 ⟨g, rfl, hR1, hg1, hg2, hE1⟩)
  rw [hWs] at hR1 hg1
  have hR1 : RefS w1 (w.heap.size + 1) g (l, 0) := hR1
  obtain ⟨W0, hW0, hE0, -⟩ := box1 w1 #[.int .i64 0, .string ⟨#[]⟩, .int .i64 0, .slice none 0 0, .int .u8 0, .int .u8 0, .int .u8 0, .int .u8 0, .int .u8 0, .int .u8 0, .int .u8 0, .int .u8 0, .int .u8 0, .int .u8 0, .int .u8 0, .int .u8 0, .int .u8 0, .int .u8 0, .int .u8 0, .int .u8 0, .int .u8 0, .int .u8 0, .int .u8 0, .int .u8 0, .int .u8 0, .int .u8 0, .int .u8 0, .int .u8 0, .int .u8 0, .int .u8 0, .int .u8 0, .int .u8 0, .int .u8 0, .int .u8 0, .int .u8 0, .int .u8 0, .string ⟨#[]⟩, .string ⟨#[]⟩, .int .i64 0, .slice none 0 0, .int .i64 0, .int .i64 0, .int .i64 0, .string ⟨#[]⟩, .bool false, .int .i64 0, .int .i64 0] 31
  rw [← hW0]
  have hEW : Ext w W0 := (hE.trans hE1).trans hE0
  have hG0 : QSt W0 W0 (w.heap.size + 1) g w1.heap.size 31 (cmdA zCmd (.slice none 0 0) (.slice none 0 0)) (l, 0) := ⟨RefAt.ext hR1 hE0, by rw [hW0]; exact Blk.new _ _ _, by omega, Holes.refl _ _ _⟩
  have hB0 : Blk W0 w.heap.size 31 #[.int .i64 0, .string ⟨#[]⟩, .int .i64 0, .slice none 0 0, .int .u8 0, .int .u8 0, .int .u8 0, .int .u8 0, .int .u8 0, .int .u8 0, .int .u8 0, .int .u8 0, .int .u8 0, .int .u8 0, .int .u8 0, .int .u8 0, .int .u8 0, .int .u8 0, .int .u8 0, .int .u8 0, .int .u8 0, .int .u8 0, .int .u8 0, .int .u8 0, .int .u8 0, .int .u8 0, .int .u8 0, .int .u8 0, .int .u8 0, .int .u8 0, .int .u8 0, .int .u8 0, .int .u8 0, .int .u8 0, .int .u8 0, .int .u8 0, .string ⟨#[]⟩, .string ⟨#[]⟩, .int .i64 0, .slice none 0 0, .int .i64 0, .int .i64 0, .int .i64 0, .string ⟨#[]⟩, .bool false, .int .i64 0, .int .i64 0] := (B.ext hE1).ext hE0
  obtain ⟨q, hq⟩ : ∃ q, w1.heap.size = q := ⟨_, rfl⟩
  rw [hq] at hG0 ⊢
  clear hW0 hR1 hg2 hE1 hq hE0 hrd B hE hWs
  go_upto_region 4 with (go_at_call 96; (with_reducible refine (rint_S hG0.rd).mono ?_); rintro e wa ⟨x1, s1, hp, hz1, rfl, hR2, hX2⟩; have HP1 := Lib.hid hp; clear hp; have hGa := (hG0).exc hR2 hX2; have cc := hGa.rs.cell 0 (v := .int .i64 0) rfl; have ff := hGa.rs.frozen 0)
  have hG1 : QSt _ (wa.setCell ⟨q, 0, none⟩ (.int .i64 x1)) (w.heap.size + 1) g q _ (cmdA ⟨x1, zTok, ⟨#[]⟩, ⟨#[]⟩, 0, [], 0, 0, zGrant, 0⟩ (.slice none 0 0) (.slice none 0 0)) s1 := hGa.put 0 (.int .i64 x1)
  generalize wa.setCell ⟨q, 0, none⟩ (.int .i64 x1) = w2 at *
  clear cc ff hGa hR2 hX2 hG0
  have htr := rtread_any hG1.rd
  unfold TokRdP at htr
  have hqs := hG1.size
  go_upto_region 5 with (first | (go_at_call 97; (with_reducible refine htr.mono ?_); rintro e w4 ⟨t, sT, a, hpT, htb, rfl, hT4, hR4, hX4⟩; have HPT := Lib.hid hpT; have hGa := hG1.exc hR4 hX4; have hat : a.oneCell' = true := (by obtain ⟨_, _, rfl, _⟩ := hT4; rfl); obtain ⟨w5, hr5, B5, hX5⟩ := store_part hGa.rs 1 (tokA t a) [.int .i64 x1] (tokA zTok (.slice none 0 0)).toList [.string ⟨#[]⟩, .string ⟨#[]⟩, .int .i64 0, .slice none 0 0, .int .i64 0, .int .i64 0, .int .i64 0, .string ⟨#[]⟩, .bool false, .int .i64 0, .int .i64 0] rfl rfl rfl 26 (by kernel_rfl) (one_tok _ _ hat); clear hpT htr) | (refine wpList_store_by rfl rfl ?_ ?_ hr5 ?_; (· rfl); (· rfl)))
  have B5 : Blk w5 q 31 (cmdA ⟨x1, t, ⟨#[]⟩, ⟨#[]⟩, 0, [], 0, 0, zGrant, 0⟩ a (.slice none 0 0)) := B5
  have hG5 := hGa.store hX5 B5
  obtain ⟨l1, hl1⟩ : ∃ z, w2.heap.size = z := ⟨_, rfl⟩
  obtain ⟨h1, hh1⟩ : ∃ z, w4.heap.size = z := ⟨_, rfl⟩
  rw [hl1] at hqs hT4
  rw [hh1] at hT4
  have hT5 : GsV (only w5 l1 h1) t.gs a := by
    rw [hX5.only (by omega) (.inr (by omega))]
    exact hT4
  have hz5 : h1 ≤ w5.heap.size := by rw [← hh1]; exact hX5.size
  have hW05 := hG5.bl
  have hgq := hG5.gq
  have hG5 := hG5.rebase
  have hEW5 : Ext w w5 := hW05.ext_ hEW (by omega) (by omega)
  have hB5 : Blk w5 w.heap.size 31 #[.int .i64 0, .string ⟨#[]⟩, .int .i64 0, .slice none 0 0, .int .u8 0, .int .u8 0, .int .u8 0, .int .u8 0, .int .u8 0, .int .u8 0, .int .u8 0, .int .u8 0, .int .u8 0, .int .u8 0, .int .u8 0, .int .u8 0, .int .u8 0, .int .u8 0, .int .u8 0, .int .u8 0, .int .u8 0, .int .u8 0, .int .u8 0, .int .u8 0, .int .u8 0, .int .u8 0, .int .u8 0, .int .u8 0, .int .u8 0, .int .u8 0, .int .u8 0, .int .u8 0, .int .u8 0, .int .u8 0, .int .u8 0, .int .u8 0, .string ⟨#[]⟩, .string ⟨#[]⟩, .int .i64 0, .slice none 0 0, .int .i64 0, .int .i64 0, .int .i64 0, .string ⟨#[]⟩, .bool false, .int .i64 0, .int .i64 0] := hW05.blk hB0 (by omega) (by omega)
  clear hr5 B5 hX5 hGa hX4 hR4 hT4 hG1 hl1 hh1 hEW hB0 hW05
  go_upto_region 6 with (go_at_call 98; (with_reducible refine (rtext24c hG5.rd).mono ?_); rintro e wa ⟨x2, s2, hp, hz2, rfl, hR2, hX2⟩; have HP2 := Lib.hid hp; clear hp; have hGa := (hG5).exc hR2 hX2; have cc := hGa.rs.cell 36 (v := .string ⟨#[]⟩) rfl; have ff := hGa.rs.frozen 36)
  have hG6 : QSt _ (wa.setCell ⟨q, 36, none⟩ (.string x2)) (w.heap.size + 1) g q _ (cmdA ⟨x1, t, x2, ⟨#[]⟩, 0, [], 0, 0, zGrant, 0⟩ a (.slice none 0 0)) s2 := hGa.put 36 (.string x2)
  generalize wa.setCell ⟨q, 36, none⟩ (.string x2) = w6 at *
  clear cc ff hGa hR2 hX2 hG5
  go_upto_region 7 with (go_at_call 98; (with_reducible refine (rtext24c hG6.rd).mono ?_); rintro e wa ⟨x3, s3, hp, hz3, rfl, hR2, hX2⟩; have HP3 := Lib.hid hp; clear hp; have hGa := (hG6).exc hR2 hX2; have cc := hGa.rs.cell 37 (v := .string ⟨#[]⟩) rfl; have ff := hGa.rs.frozen 37)
  have hG7 : QSt _ (wa.setCell ⟨q, 37, none⟩ (.string x3)) (w.heap.size + 1) g q _ (cmdA ⟨x1, t, x2, x3, 0, [], 0, 0, zGrant, 0⟩ a (.slice none 0 0)) s3 := hGa.put 37 (.string x3)
  generalize wa.setCell ⟨q, 37, none⟩ (.string x3) = w7 at *
  clear cc ff hGa hR2 hX2 hG6
  go_upto_region 8 with (go_at_call 96; (with_reducible refine (rint_S hG7.rd).mono ?_); rintro e wa ⟨x4, s4, hp, hz4, rfl, hR2, hX2⟩; have HP4 := Lib.hid hp; clear hp; have hGa := (hG7).exc hR2 hX2; have cc := hGa.rs.cell 38 (v := .int .i64 0) rfl; have ff := hGa.rs.frozen 38)
  have hG8 : QSt _ (wa.setCell ⟨q, 38, none⟩ (.int .i64 x4)) (w.heap.size + 1) g q _ (cmdA ⟨x1, t, x2, x3, x4, [], 0, 0, zGrant, 0⟩ a (.slice none 0 0)) s4 := hGa.put 38 (.int .i64 x4)
  generalize wa.setCell ⟨q, 38, none⟩ (.int .i64 x4) = w8 at *
  clear cc ff hGa hR2 hX2 hG7
  have hct := rcount4 hG8.rd
  go_wp2_with (go_at_call 99; (with_reducible refine hct.mono ?_); rintro e w21 ⟨m, s10, hp10, hm, rfl, hR2, hX2⟩; have HPC := Lib.hid hp10; clear hp10; have hG21 := hG8.exc hR2 hX2; clear hR2 hX2)
  clear hct hG8
  have hb21 := hG21.bl
  have hqW : q < w21.heap.size := hG21.size
  have hT21 : GsV (only w21 l1 h1) t.gs a := by
    rw [hb21.only hz5 (by omega) (by omega)]
    exact hT5
  have hEW21 : Ext w w21 := hb21.ext_ hEW5 (by omega) (by omega)
  have hB21 := hb21.blk hB5 (by omega) (by omega)
  have hz21 : h1 ≤ w21.heap.size := Nat.le_trans hz5 hb21.size
  have hG21 := hG21.rebase
  clear hb21 hT5 hEW5 hB5 hz5
  go_loopw [7] (fun i wr => ∃ (k : Nat) (v : Value) (rows : List (List UInt8)) (vs : List Value) (s : St), k ≤ m ∧ i = .int .i64 k ∧ Hid (manyS (blobS 256) k s10 = (rows, s)) ∧ QSt w21 wr (w.heap.size + 1) g q 31 (cmdA ⟨x1, t, x2, x3, x4, [], 0, 0, zGrant, 0⟩ a v) s ∧ wr.ownsRow w21.heap.size 35 1 v k vs ∧ Hid (rows.length = k) ∧ (∀ x ∈ rows, x.length ≤ 256) ∧ (∀ i (h : i < rows.length), ∃ u, vs[i]? = some u ∧ wr.ownsRow w21.heap.size 5 1 u rows[i].length (rows[i].flatMap encB))) (fun i _ => m - (intOf i).toNat)
  case atStart => exact ⟨0, _, [], [], s10, by omega, rfl, Lib.hid rfl, hG21, World.ownsRow_nil _ _ _ _, Lib.hid rfl, (fun x hx => by cases hx), (fun i h => by cases h)⟩
  case round =>
    clear hG21
    obtain ⟨k, v, rows, vs, s, hkm, rfl, HB, hG, hown, HL, hrl, hel⟩ := hrel
    have hs21 := hG.bl.size
    by_cases hlt : k < m
    · have r2 := fun (w' : World) (h : CAt q 39 v w') => (show w'.cell? ⟨q, 39, none⟩ = some v from h)
      go_wp2_with fail
      refine wp_region_noPanic ?_
      refine tr_start (.y 0 (.y 1 (.y 2 (.e 3 (.e 4 (.e 5 (.y 6 (.e 7 .nil)))))))) (CAt q 39 v) (by kernel_rfl) (by as_aux_lemma => kernel_rfl) (fun _ _ _ _ _ h => h) (hG.drew.rs.cell 39 rfl) ?_
      iterate 3 (first | (refine tr_off (a' := ?_) rfl rfl (by rfl) ?_ ?_; rotate_left 1; (· simp only [Act.put, zzA, zz0, zzS]; rfl)) | (refine tr_y (v := ?_) (a' := ?_) rfl rfl (by rfl) (fun w' hw' => ?_) ?_ ?_; rotate_left 2; (· go_simp; with_reducible rfl); (· simp only [Act.put, zzA, zz0, zzS]; rfl)))
      have hGd := hG.drew
      have hod := own_ext hown ((Ext.refl wr).drew)
      have hed := fun i (h : i < rows.length) => (hel i h).imp fun u hu => (⟨hu.1, own_ext hu.2 ((Ext.refl wr).drew)⟩ : _ ∧ _)
      have hsd : wr.heap.size ≤ wr.drew.heap.size := ((Ext.refl wr).drew).le
      generalize wr.drew = wd at hGd hod hed hsd ⊢
      have hbl := rblob256 hGd.rd
      refine tr_call (args := ?_) rfl Tryz.func100 (by kernel_rfl) rfl (by rfl) rfl rfl ?_ ?_
      rotate_left 1
      · go_simp; rfl
      (with_reducible refine (hbl).mono ?_)
      rintro e w22 ⟨u1, p1, s1, hp1, hz1, rfl, hu1, hR3, hX3⟩
      refine ⟨_, _, rfl, (hGd.exc hR3 hX3).rs.cell 39 rfl, (by simp only [Act.put, zzA, zz0, zzS]; rfl), ?_⟩
      have HB1 := Lib.hid hp1
      have hG22 := hGd.exc hR3 hX3
      have hu1 := own_base (base' := w21.heap.size) hu1 (by omega)
      have ho22 : w22.ownsRow w21.heap.size 35 1 v k vs := own_excB hod hX3 (by omega)
      have hs22 : w21.heap.size ≤ w22.heap.size := by have := hX3.size; omega
      obtain ⟨A1, c1, hv1, h1c, -, -⟩ := own_bytes (lo := w21.heap.size) (hi := w22.heap.size) hu1 (Nat.le_refl _) (Nat.le_refl _)
      subst hv1
      obtain ⟨n1, hn1⟩ : ∃ n, p1.length = n := ⟨_, rfl⟩
      rw [hn1] at hu1 h1c hz1 ⊢
      have hb22 : Below w21.heap.size w22 (w22.alloc (.cells #[.slice A1 n1 c1] 35)) := (Below.refl _ _).alloc hs22 _
      refine tr_value (v := ?_) (w1 := ?_) (a' := ?_) rfl rfl (by rfl) ?_ ?_ ?_ ?_
      rotate_left 3
      · go_simp; refine ⟨?_, ?_⟩ <;> with_reducible rfl
      · exact (hG22.up hb22 hqW).rs.cell 39 rfl
      · simp only [Act.put, zzA, zz0, zzS]; rfl
      refine tr_append (news := [.slice A1 n1 c1]) rfl (by rfl) rfl elt_nested (.tmp 34) (.tmp 37) rfl (ho22.alloc _) rfl rfl ?_ ?_ ?_ ?_ ?_ ?_
      · exact ⟨rfl, (fun h => by cases h), fun ad h j u hu => (by cases h; exact new_cells w22 _ #[.slice A1 n1 c1] j u hu)⟩
      · intro u hu; simp at hu; subst hu; rfl
      · unfold maxLen; omega
      · omega
      · simp; omega
      intro v7 w7 hown7 hgrow7
      have hkeep : ∀ (u : Value) (m : Nat) (cs : List Value), w22.ownsRow w21.heap.size 5 1 u m cs → w7.ownsRow w21.heap.size 5 1 u m cs := fun u m cs h =>
        (h.alloc _).kept hgrow7 (own_ne (h.alloc (.cells #[.slice A1 n1 c1] 35)) (ho22.alloc _) (by decide))
      obtain ⟨A7, c7, rfl⟩ := own_val hown7
      have hb7 := below_grown hb22 (by simp; omega) (ho22.alloc _) hgrow7 (Nat.le_refl _)
      have hG7 := hG22.up hb7 hqW
      refine ⟨_, hG7.rs.cell 39 rfl, (by simp only [Act.put, zzA, zz0, zzS]; rfl), ?_⟩
      iterate 1 (first | (refine tr_off (a' := ?_) rfl rfl (by rfl) ?_ ?_; rotate_left 1; (· simp only [Act.put, zzA, zz0, zzS]; rfl)) | (refine tr_y (v := ?_) (a' := ?_) rfl rfl (by rfl) (fun w' hw' => ?_) ?_ ?_; rotate_left 2; (· go_simp; with_reducible rfl); (· simp only [Act.put, zzA, zz0, zzS]; rfl)))
      have cc := hG7.rs.cell 39 (v := v) rfl
      have ff := hG7.rs.frozen 39
      have hG8 : QSt w21 (w7.setCell ⟨q, 39, none⟩ (.slice A7 (k + 1) c7)) (w.heap.size + 1) g q 31 (cmdA ⟨x1, t, x2, x3, x4, [], 0, 0, zGrant, 0⟩ a (.slice A7 (k + 1) c7)) s1 := hG7.put 39 (.slice A7 (k + 1) c7)
      have ho8 : (w7.setCell ⟨q, 39, none⟩ (.slice A7 (k + 1) c7)).ownsRow w21.heap.size 35 1 (.slice A7 (k + 1) c7) (k + 1) (vs ++ [.slice A1 n1 c1]) := own_set hown7 (p := ⟨q, 39, none⟩) hqW _
      have hkeep : ∀ (u : Value) (m : Nat) (cs : List Value), w22.ownsRow w21.heap.size 5 1 u m cs → (w7.setCell ⟨q, 39, none⟩ (.slice A7 (k + 1) c7)).ownsRow w21.heap.size 5 1 u m cs := fun u m cs h => own_set (hkeep u m cs h) (p := ⟨q, 39, none⟩) hqW _
      refine tr_last (w1 := w7.setCell ⟨q, 39, none⟩ (.slice A7 (k + 1) c7)) rfl (by rfl) rfl (by kernel_rfl) (by go_simp; try rfl) ?_
      refine NoPanic.normal ?_
      generalize w7.setCell ⟨q, 39, none⟩ (.slice A7 (k + 1) c7) = w8 at hG8 ho8 hkeep ⊢
      have hvl : vs.length = k := by have := hown.1; omega
      have hel2 : ∀ i (h : i < (rows ++ [p1]).length), ∃ u, (vs ++ [.slice A1 n1 c1])[i]? = some u ∧ w8.ownsRow w21.heap.size 5 1 u (rows ++ [p1])[i].length ((rows ++ [p1])[i].flatMap encB) := fun i h => by
        have hl := HL.out
        rw [List.length_append] at h
        by_cases hik : i < rows.length
        · obtain ⟨u, hu, hK⟩ := hed i hik
          exact ⟨u, by rw [List.getElem?_append_left (by omega)]; exact hu, by rw [List.getElem_append_left hik]; exact hkeep _ _ _ (own_excB hK hX3 (by omega))⟩
        · have hil : i = k := by simp at h; omega
          subst hil
          refine ⟨_, by rw [List.getElem?_append_right (by omega), hvl, Nat.sub_self]; rfl, ?_⟩
          rw [List.getElem_append_right (by omega)]
          simp only [hl, Nat.sub_self, List.getElem_cons_zero]
          rw [hn1]
          exact hkeep _ _ _ hu1
      have HB2 : Hid (manyS (blobS 256) (k + 1) s10 = (rows ++ [p1], s1)) := Lib.hid (by rw [manyS, HB.out]; simp only [HB1.out])
      have HL2 : Hid ((rows ++ [p1]).length = k + 1) := Lib.hid (by have := HL.out; simp; omega)
      have hrl2 : ∀ x ∈ rows ++ [p1], x.length ≤ 256 := fun x hx => by
        rcases List.mem_append.1 hx with hx | hx
        · exact hrl x hx
        · obtain rfl : x = p1 := by simpa using hx
          rw [hn1]; exact hz1
      clear hG hown hel hed HB HL hrl hG22 ho22 hb22 hb7 hG7 hown7 hgrow7 cc ff hGd hod hbl hp1 hn1 hR3 hX3 r2 hvl hkeep hu1
      go_wp2_with fail
      go_roundw
      case rel => exact ⟨k + 1, _, _, _, s1, by omega, by go_num, HB2, hG8, ho8, HL2, hrl2, hel2⟩
      case measure => simp [intOf]; omega
    · obtain rfl : k = m := by omega
      obtain ⟨A7, c7, hv7, h7c, h7S⟩ := own_nested (lo := w21.heap.size) (hi := wr.heap.size) (l := rows) (by rw [HL.out]; exact hown) (Nat.le_refl _) (Nat.le_refl _) (fun i h => by
        obtain ⟨u, hu, hK⟩ := hel i h
        obtain ⟨A3, c3, rfl, b1, _, b2⟩ := own_bytes (lo := w21.heap.size) (hi := wr.heap.size) hK (Nat.le_refl _) (Nat.le_refl _)
        exact ⟨_, hu, A3, c3, rfl, b1, b2⟩)
      subst hv7
      have HP5 : Hid (listS 4 (blobS 256) s4 = (rows, s)) := Lib.hid (by unfold listS; simp only [HPC.out, Int.toNat_natCast]; exact HB.out)
      have hrn : rows.length ≤ 4 := by rw [HL.out]; omega
      have hbl := hG.bl
      have hT := hT21
      rw [← hbl.only hz21 (by omega) (by omega)] at hT
      have hEr : Ext w wr := hbl.ext_ hEW21 (by omega) (by omega)
      have hBr := hbl.blk hB21 (by omega) (by omega)
      have hzr : h1 ≤ wr.heap.size := by omega
      have hwr2 : w21.heap.size ≤ wr.heap.size := hs21
      have hG30 : QSt wr wr (w.heap.size + 1) g q 31 (cmdA ⟨x1, t, x2, x3, x4, rows, 0, 0, zGrant, 0⟩ a (.slice A7 rows.length c7)) s := hG.rebase
      clear hown hel hG hbl hB21 hT21 HB hEW21 HPC hs21
      obtain ⟨b0, hb0⟩ : ∃ b, w21.heap.size = b := ⟨_, rfl⟩
      rw [hb0] at h7S hqW hwr2
      clear hb0
      go_upto_region 14 with (go_at_call 96; (with_reducible refine (rint_S hG30.rd).mono ?_); rintro e wa ⟨x6, s6, hp, hz6, rfl, hR2, hX2⟩; have HP6 := Lib.hid hp; clear hp; have hGa := (hG30).exc hR2 hX2; have cc := hGa.rs.cell 40 (v := .int .i64 0) rfl; have ff := hGa.rs.frozen 40)
      have hG31 : QSt _ (wa.setCell ⟨q, 40, none⟩ (.int .i64 x6)) (w.heap.size + 1) g q _ (cmdA ⟨x1, t, x2, x3, x4, rows, x6, 0, zGrant, 0⟩ a (.slice A7 rows.length c7)) s6 := hGa.put 40 (.int .i64 x6)
      generalize wa.setCell ⟨q, 40, none⟩ (.int .i64 x6) = w31 at *
      clear cc ff hGa hR2 hX2 hG30
      go_upto_region 15 with (go_at_call 96; (with_reducible refine (rint_S hG31.rd).mono ?_); rintro e wa ⟨x7, s7, hp, hz7, rfl, hR2, hX2⟩; have HP7 := Lib.hid hp; clear hp; have hGa := (hG31).exc hR2 hX2; have cc := hGa.rs.cell 41 (v := .int .i64 0) rfl; have ff := hGa.rs.frozen 41)
      have hG32 : QSt _ (wa.setCell ⟨q, 41, none⟩ (.int .i64 x7)) (w.heap.size + 1) g q _ (cmdA ⟨x1, t, x2, x3, x4, rows, x6, x7, zGrant, 0⟩ a (.slice A7 rows.length c7)) s7 := hGa.put 41 (.int .i64 x7)
      generalize wa.setCell ⟨q, 41, none⟩ (.int .i64 x7) = w32 at *
      clear cc ff hGa hR2 hX2 hG31
      go_upto_region 16 with (go_at_call 96; (with_reducible refine (rint_S hG32.rd).mono ?_); rintro e wa ⟨x8, s8, hp, hz8, rfl, hR2, hX2⟩; have HP8 := Lib.hid hp; clear hp; have hGa := (hG32).exc hR2 hX2; have cc := hGa.rs.cell 42 (v := .int .i64 0) rfl; have ff := hGa.rs.frozen 42)
      have hG33 : QSt _ (wa.setCell ⟨q, 42, none⟩ (.int .i64 x8)) (w.heap.size + 1) g q _ (cmdA ⟨x1, t, x2, x3, x4, rows, x6, x7, ⟨x8, ⟨#[]⟩, false, 0⟩, 0⟩ a (.slice A7 rows.length c7)) s8 := hGa.put 42 (.int .i64 x8)
      generalize wa.setCell ⟨q, 42, none⟩ (.int .i64 x8) = w33 at *
      clear cc ff hGa hR2 hX2 hG32
      go_upto_region 17 with (go_at_call 98; (with_reducible refine (rtext24c hG33.rd).mono ?_); rintro e wa ⟨x9, s9, hp, hz9, rfl, hR2, hX2⟩; have HP9 := Lib.hid hp; clear hp; have hGa := (hG33).exc hR2 hX2; have cc := hGa.rs.cell 43 (v := .string ⟨#[]⟩) rfl; have ff := hGa.rs.frozen 43)
      have hG34 : QSt _ (wa.setCell ⟨q, 43, none⟩ (.string x9)) (w.heap.size + 1) g q _ (cmdA ⟨x1, t, x2, x3, x4, rows, x6, x7, ⟨x8, x9, false, 0⟩, 0⟩ a (.slice A7 rows.length c7)) s9 := hGa.put 43 (.string x9)
      generalize wa.setCell ⟨q, 43, none⟩ (.string x9) = w34 at *
      clear cc ff hGa hR2 hX2 hG33
      go_upto_region 18 with (go_at_call 99; (with_reducible refine (rcount1 hG34.rd).mono ?_); rintro e wa ⟨x10, s10, hp, hz10, rfl, hR2, hX2⟩; have HP10 := Lib.hid hp; clear hp; have hGa := (hG34).exc hR2 hX2; have cc := hGa.rs.cell 44 (v := .bool false) rfl; have ff := hGa.rs.frozen 44)
      have hG35 : QSt _ (wa.setCell ⟨q, 44, none⟩ (.bool ((x10 : Int) == 1))) (w.heap.size + 1) g q _ (cmdA ⟨x1, t, x2, x3, x4, rows, x6, x7, ⟨x8, x9, isOne x10, 0⟩, 0⟩ a (.slice A7 rows.length c7)) s10 := hGa.put 44 (.bool ((x10 : Int) == 1))
      generalize wa.setCell ⟨q, 44, none⟩ (.bool ((x10 : Int) == 1)) = w35 at *
      clear cc ff hGa hR2 hX2 hG34
      go_upto_region 19 with (go_at_call 96; (with_reducible refine (rint_S hG35.rd).mono ?_); rintro e wa ⟨x11, s11, hp, hz11, rfl, hR2, hX2⟩; have HP11 := Lib.hid hp; clear hp; have hGa := (hG35).exc hR2 hX2; have cc := hGa.rs.cell 45 (v := .int .i64 0) rfl; have ff := hGa.rs.frozen 45)
      have hG36 : QSt _ (wa.setCell ⟨q, 45, none⟩ (.int .i64 x11)) (w.heap.size + 1) g q _ (cmdA ⟨x1, t, x2, x3, x4, rows, x6, x7, ⟨x8, x9, isOne x10, x11⟩, 0⟩ a (.slice A7 rows.length c7)) s11 := hGa.put 45 (.int .i64 x11)
      generalize wa.setCell ⟨q, 45, none⟩ (.int .i64 x11) = w36 at *
      clear cc ff hGa hR2 hX2 hG35
      go_upto_region 20 with (go_at_call 96; (with_reducible refine (rint_S hG36.rd).mono ?_); rintro e wa ⟨x12, s12, hp, hz12, rfl, hR2, hX2⟩; have HP12 := Lib.hid hp; clear hp; have hGa := (hG36).exc hR2 hX2; have cc := hGa.rs.cell 46 (v := .int .i64 0) rfl; have ff := hGa.rs.frozen 46)
      have hG37 : QSt _ (wa.setCell ⟨q, 46, none⟩ (.int .i64 x12)) (w.heap.size + 1) g q _ (cmdA ⟨x1, t, x2, x3, x4, rows, x6, x7, ⟨x8, x9, isOne x10, x11⟩, x12⟩ a (.slice A7 rows.length c7)) s12 := hGa.put 46 (.int .i64 x12)
      generalize wa.setCell ⟨q, 46, none⟩ (.int .i64 x12) = w37 at *
      clear cc ff hGa hR2 hX2 hG36
      obtain ⟨cc, hcc⟩ : ∃ z : Cmd, (⟨x1, t, x2, x3, x4, rows, x6, x7, ⟨x8, x9, isOne x10, x11⟩, x12⟩ : Cmd) = z := ⟨_, rfl⟩
      have hRd : CmdRd cc := by rw [← hcc]; exact ⟨hz1, htb, hz2, hz3, hz4, hrn, hrl, hz6, hz7, hz8, hz9, hz11, hz12⟩
      have HC : Hid (cmdS (l, 0) = (cc, s12)) := Lib.hid (by rw [← hcc]; exact cmd_step HP1.out HPT.out HP2.out HP3.out HP4.out HP5.out HP6.out HP7.out (gr_step HP8.out HP9.out HP10.out HP11.out) HP12.out)
      have hgsC : cc.tok.gs = t.gs := by rw [← hcc]
      have hrwC : cc.bodies = rows := by rw [← hcc]
      rw [hcc] at hG37
      clear HP1 HPT HP2 HP3 HP4 HP5 HP6 HP7 HP8 HP9 HP10 HP11 HP12 hz1 hz2 hz3 hz4 hz6 hz7 hz8 hz9 hz11 hz12 htb hrn hrl
      have hbl := hG37.bl
      have hE37 : Ext w w37 := hbl.ext_ hEr (by omega) (by omega)
      have hB37 := hbl.blk hBr (by omega) (by omega)
      have hz37 : wr.heap.size ≤ w37.heap.size := hbl.size
      have hatO : CmdAt (only w37 (w.heap.size + 1) w37.heap.size) cc (cmdA cc a (.slice A7 rows.length c7)) := by
        rw [← hbl.only hzr (by omega) (by omega)] at hT
        rw [← hbl.only (Nat.le_refl _) (by omega) (by omega)] at h7S
        exact ⟨_, _, rfl, by rw [hgsC]; exact hT.mono (only_wide (by omega) (by omega)), A7, c7, by rw [hrwC], by rw [hrwC]; exact h7c, by rw [hrwC]; exact h7S.mono (only_wide (by omega) (by omega))⟩
      have hat37 : CmdAt w37 cc (cmdA cc a (.slice A7 rows.length c7)) := hatO.mono only_cle
      have hck := fun (w' : World) (e : Ext w37 w') => rccheckq_any w' cc _ (hat37.ext e) hRd.len
      have hl37 := fun (w' : World) (e : Ext w37 w') => load_whole (hG37.rs.ext e) 31 _ Tryz.underlying31 rfl (by kernel_rfl)
      have hen := rend_S hG37.rd
      obtain ⟨ev, hev⟩ : ∃ z, endS s12 = z := ⟨_, rfl⟩
      rw [hev] at hen
      have HE := Lib.hid hev
      clear hev hcc hbl hT h7S hEr hBr
      by_cases he : ev = 0
      · subst he
        go_upto_region 22 with (go_at_call 101; (with_reducible refine hen.mono ?_); rintro e w38 ⟨rfl, hE38⟩)
        refine wp_region_lit ?_
        refine pl_y (v := ?_) (a' := ?_) rfl (by rfl) ?_ ?_ ?_
        rotate_left 2
        · (refine (run_op_load rfl ?_ ((hl37 _ hE38))).trans ?_; (· rfl); (· with_reducible rfl))
        · simp only [Act.put, zzA, zz0, zzS]; rfl
        refine pl_call (args := ?_) Tryz.func15 (by kernel_rfl) rfl (by rfl) rfl rfl ?_ ?_
        rotate_left 1
        · go_simp; with_reducible rfl
        (with_reducible refine (hck _ hE38).mono ?_)
        rintro e wc ⟨rfl, hEc⟩
        refine ⟨_, _, rfl, (by simp only [Act.put, zzA, zz0, zzS]; rfl), ?_⟩
        (first | (refine pl_off (a' := ?_) rfl (by rfl) ?_ ?_; rotate_left 1; (· simp only [Act.put, zzA, zz0, zzS]; rfl)) | (refine pl_y (v := ?_) (a' := ?_) rfl (by rfl) ?_ ?_ ?_; rotate_left 2; (· go_simp; with_reducible rfl); (· simp only [Act.put, zzA, zz0, zzS]; rfl)))
        refine wpList_nil ?_
        have hE38c := hE38.trans hEc
        have hDc := hB37.ext hE38c
        obtain ⟨cv, hcv⟩ : ∃ z, cmdG cc = z := ⟨_, rfl⟩
        rw [hcv]
        have HCV := Lib.hid hcv
        clear hcv hck hen
        by_cases hcz : cv = 0
        · subst hcz
          obtain ⟨wF, hrF, BF, hXF⟩ := store_part hDc 0 (cmdA cc a (.slice A7 rows.length c7)) [] [.int .i64 0, .string ⟨#[]⟩, .int .i64 0, .slice none 0 0, .int .u8 0, .int .u8 0, .int .u8 0, .int .u8 0, .int .u8 0, .int .u8 0, .int .u8 0, .int .u8 0, .int .u8 0, .int .u8 0, .int .u8 0, .int .u8 0, .int .u8 0, .int .u8 0, .int .u8 0, .int .u8 0, .int .u8 0, .int .u8 0, .int .u8 0, .int .u8 0, .int .u8 0, .int .u8 0, .int .u8 0, .int .u8 0, .int .u8 0, .int .u8 0, .int .u8 0, .int .u8 0, .int .u8 0, .int .u8 0, .int .u8 0, .int .u8 0, .string ⟨#[]⟩, .string ⟨#[]⟩, .int .i64 0, .slice none 0 0, .int .i64 0, .int .i64 0, .int .i64 0, .string ⟨#[]⟩, .bool false, .int .i64 0, .int .i64 0] [] rfl rfl rfl 31 (by kernel_rfl) (one_cmd _ _ _ hat rfl)
          have BF : Blk wF w.heap.size 31 (cmdA cc a (.slice A7 rows.length c7)) := by simpa using BF
          go_upto_region 25 with fail
          refine wp_region_lit ?_
          refine pl_y (v := ?_) (a' := ?_) rfl (by rfl) ?_ ?_ ?_
          rotate_left 2
          · (refine (run_op_load rfl ?_ ((hl37 _ hE38c))).trans ?_; (· rfl); (· with_reducible rfl))
          · simp only [Act.put, zzA, zz0, zzS]; rfl
          refine pl_store (by rfl) rfl (run_op_store rfl ?_ ?_ hrF) ?_
          · rfl
          · rfl
          (first | (refine pl_off (a' := ?_) rfl (by rfl) ?_ ?_; rotate_left 1; (· simp only [Act.put, zzA, zz0, zzS]; rfl)) | (refine pl_y (v := ?_) (a' := ?_) rfl (by rfl) ?_ ?_ ?_; rotate_left 2; (· go_simp; with_reducible rfl); (· simp only [Act.put, zzA, zz0, zzS]; rfl)))
          refine wpList_nil ?_
          go_wp2_with fail
          refine bodyPost_ret (v := .tuple #[.agg (cmdA cc a (.slice A7 rows.length c7)), .int .i64 0]) (results_row_tmp (fn := Tryz.f28) rfl _ wF w.heap.size _ _ _ _ rfl BF Tryz.underlying31 rfl (by kernel_rfl) rfl) rfl ?_
          rw [← HP.out]
          have e1 : only wc (w.heap.size + 1) w37.heap.size = only w37 (w.heap.size + 1) w37.heap.size := only_ext hE38c (Nat.le_refl _)
          have e2 : only wF (w.heap.size + 1) w37.heap.size = only wc (w.heap.size + 1) w37.heap.size := hXF.only hE38c.le (.inr (Nat.le_refl _))
          rw [← e1, ← e2] at hatO
          exact rgetC_full (by unfold getC; rw [HC.out]; simp only [HE.out, HCV.out]; simp) (hatO.mono (only_wide (Nat.le_succ _) (Nat.le_trans hE38c.le hXF.size))) (Exc.ext (hE37.trans hE38c) hXF (Nat.le_refl _))
        · have hcz' : (cv != 0) = true := by simpa using hcz
          obtain ⟨wF, hrF, BF, hXF⟩ := store_part hDc 0 (cmdA zCmd (.slice none 0 0) (.slice none 0 0)) [] [.int .i64 0, .string ⟨#[]⟩, .int .i64 0, .slice none 0 0, .int .u8 0, .int .u8 0, .int .u8 0, .int .u8 0, .int .u8 0, .int .u8 0, .int .u8 0, .int .u8 0, .int .u8 0, .int .u8 0, .int .u8 0, .int .u8 0, .int .u8 0, .int .u8 0, .int .u8 0, .int .u8 0, .int .u8 0, .int .u8 0, .int .u8 0, .int .u8 0, .int .u8 0, .int .u8 0, .int .u8 0, .int .u8 0, .int .u8 0, .int .u8 0, .int .u8 0, .int .u8 0, .int .u8 0, .int .u8 0, .int .u8 0, .int .u8 0, .string ⟨#[]⟩, .string ⟨#[]⟩, .int .i64 0, .slice none 0 0, .int .i64 0, .int .i64 0, .int .i64 0, .string ⟨#[]⟩, .bool false, .int .i64 0, .int .i64 0] [] rfl rfl rfl 31 (by kernel_rfl) (one_cmd _ _ _ rfl rfl)
          have BF : Blk wF w.heap.size 31 (cmdA zCmd (.slice none 0 0) (.slice none 0 0)) := by simpa using BF
          go_upto_region 24 with fail
          refine wp_region_lit ?_
          iterate 2 (first | (refine pl_off (a' := ?_) rfl (by rfl) ?_ ?_; rotate_left 1; (· simp only [Act.put, zzA, zz0, zzS]; rfl)) | (refine pl_y (v := ?_) (a' := ?_) rfl (by rfl) ?_ ?_ ?_; rotate_left 2; (· go_simp; with_reducible rfl); (· simp only [Act.put, zzA, zz0, zzS]; rfl)))
          refine pl_store (by rfl) rfl (run_op_store rfl ?_ ?_ hrF) ?_
          · rfl
          · rfl
          (first | (refine pl_off (a' := ?_) rfl (by rfl) ?_ ?_; rotate_left 1; (· simp only [Act.put, zzA, zz0, zzS]; rfl)) | (refine pl_y (v := ?_) (a' := ?_) rfl (by rfl) ?_ ?_ ?_; rotate_left 2; (· go_simp; with_reducible rfl); (· simp only [Act.put, zzA, zz0, zzS]; rfl)))
          refine wpList_nil ?_
          go_wp2_with fail
          refine bodyPost_ret (v := .tuple #[.agg (cmdA zCmd (.slice none 0 0) (.slice none 0 0)), .int .i64 cv]) (results_row_tmp (fn := Tryz.f28) rfl _ wF w.heap.size _ _ _ _ rfl BF Tryz.underlying31 rfl (by kernel_rfl) rfl) rfl ?_
          rw [← HP.out]
          exact rgetC_zero (by unfold getC; rw [HC.out]; simp only [HE.out, HCV.out]; simp [hcz]) (Exc.ext (hE37.trans hE38c) hXF (Nat.le_refl _))
      · have he' : (ev != 0) = true := by simpa using he
        have he2 : (ev == 0) = false := by simpa using he
        have hE37a := hE37
        go_upto_region 23 with (go_at_call 101; (with_reducible refine hen.mono ?_); rintro e w38 ⟨rfl, hE38⟩)
        have hDd := hB37.ext hE38
        obtain ⟨wF, hrF, BF, hXF⟩ := store_part hDd 0 (cmdA zCmd (.slice none 0 0) (.slice none 0 0)) [] [.int .i64 0, .string ⟨#[]⟩, .int .i64 0, .slice none 0 0, .int .u8 0, .int .u8 0, .int .u8 0, .int .u8 0, .int .u8 0, .int .u8 0, .int .u8 0, .int .u8 0, .int .u8 0, .int .u8 0, .int .u8 0, .int .u8 0, .int .u8 0, .int .u8 0, .int .u8 0, .int .u8 0, .int .u8 0, .int .u8 0, .int .u8 0, .int .u8 0, .int .u8 0, .int .u8 0, .int .u8 0, .int .u8 0, .int .u8 0, .int .u8 0, .int .u8 0, .int .u8 0, .int .u8 0, .int .u8 0, .int .u8 0, .int .u8 0, .string ⟨#[]⟩, .string ⟨#[]⟩, .int .i64 0, .slice none 0 0, .int .i64 0, .int .i64 0, .int .i64 0, .string ⟨#[]⟩, .bool false, .int .i64 0, .int .i64 0] [] rfl rfl rfl 31 (by kernel_rfl) (one_cmd _ _ _ rfl rfl)
        have BF : Blk wF w.heap.size 31 (cmdA zCmd (.slice none 0 0) (.slice none 0 0)) := by simpa using BF
        go_upto_region 24 with fail
        refine wp_region_lit ?_
        iterate 2 (first | (refine pl_off (a' := ?_) rfl (by rfl) ?_ ?_; rotate_left 1; (· simp only [Act.put, zzA, zz0, zzS]; rfl)) | (refine pl_y (v := ?_) (a' := ?_) rfl (by rfl) ?_ ?_ ?_; rotate_left 2; (· go_simp; with_reducible rfl); (· simp only [Act.put, zzA, zz0, zzS]; rfl)))
        refine pl_store (by rfl) rfl (run_op_store rfl ?_ ?_ hrF) ?_
        · rfl
        · rfl
        (first | (refine pl_off (a' := ?_) rfl (by rfl) ?_ ?_; rotate_left 1; (· simp only [Act.put, zzA, zz0, zzS]; rfl)) | (refine pl_y (v := ?_) (a' := ?_) rfl (by rfl) ?_ ?_ ?_; rotate_left 2; (· go_simp; with_reducible rfl); (· simp only [Act.put, zzA, zz0, zzS]; rfl)))
        refine wpList_nil ?_
        go_wp2_with fail
        refine bodyPost_ret (v := .tuple #[.agg (cmdA zCmd (.slice none 0 0) (.slice none 0 0)), .int .i64 ev]) (results_row_tmp (fn := Tryz.f28) rfl _ wF w.heap.size _ _ _ _ rfl BF Tryz.underlying31 rfl (by kernel_rfl) rfl) rfl ?_
        rw [← HP.out]
        exact rgetC_zero (by unfold getC; rw [HC.out]; simp only [HE.out]; simp [he]) (Exc.ext (hE37.trans hE38) hXF (Nat.le_refl _))
end Go.Proofs.YtgfhbachgniipaaGreatDoor

namespace Go.Proofs.YtgfhbachgniipaaGreatDoor
open Go.RowKit
def RGetA (w : World) (b : List UInt8) (e : Ending) (w' : World) : Prop := ∃ C, e = .returned (.tuple #[.agg C, .int .i64 (getA b).2]) ∧ AnsAt (only w' w.heap.size w'.heap.size) (getA b).1 C ∧ Ext w w'
theorem rgetA_zero {w w' : World} {b : List UInt8} {v : Int} (h : getA b = (zAns, v)) (hE : Ext w w') : RGetA w b (.returned (.tuple #[.agg (ansA zAns (.slice none 0 0) (.slice none 0 0) (.slice none 0 0)), .int .i64 v])) w' := by
  unfold RGetA
  rw [h]
  exact ⟨_, rfl, ⟨_, _, _, rfl, HsV.nil _, GsV.nil _, EsV.nil _⟩, hE⟩
theorem rgetA_full {w w' : World} {l : List UInt8} {x : Ans} {C : Array Value} (h : getA l = (x, 0)) (hi : AnsAt (only w' w.heap.size w'.heap.size) x C) (hE : Ext w w') : RGetA w l (.returned (.tuple #[.agg C, .int .i64 0])) w' := by
  unfold RGetA
  rw [h]
  exact ⟨_, rfl, hi, hE⟩
set_option maxHeartbeats 9000000 in
set_option maxRecDepth 100000 in
theorem raget_any (w : World) (A : Option Addr) (c : Nat) (l : List UInt8) (hS : Rd.u8.Sl w A l.length l) (hc : l.length ≤ c) (hn : l.length ≤ 4294967296) :
    Calls Tryz.prog 30 #[.slice A l.length c] w (RGetA w l) := by
  obtain ⟨P, hP⟩ : ∃ P, RGetA w l = P := ⟨_, rfl⟩
  rw [hP]
  have HP := Lib.hid hP
  clear hP
  have hrd := fun (w' : World) (h : Ext w w') => rread_any w' A c l (hS.ext h) hc hn
  obtain ⟨n, hln⟩ : ∃ n, l.length = n := ⟨_, rfl⟩
  rw [hln] at hrd hc hn ⊢
  clear hS
  obtain ⟨W, hW, hE, -⟩ := box1 w #[.int .i64 0, .int .i64 0, .slice none 0 0, .string ⟨#[]⟩, .int .i64 0, .slice none 0 0, .int .u8 0, .int .u8 0, .int .u8 0, .int .u8 0, .int .u8 0, .int .u8 0, .int .u8 0, .int .u8 0, .int .u8 0, .int .u8 0, .int .u8 0, .int .u8 0, .int .u8 0, .int .u8 0, .int .u8 0, .int .u8 0, .int .u8 0, .int .u8 0, .int .u8 0, .int .u8 0, .int .u8 0, .int .u8 0, .int .u8 0, .int .u8 0, .int .u8 0, .int .u8 0, .int .u8 0, .int .u8 0, .int .u8 0, .int .u8 0, .int .u8 0, .int .u8 0, .slice none 0 0] 46
  have B : Blk W w.heap.size 46 #[.int .i64 0, .int .i64 0, .slice none 0 0, .string ⟨#[]⟩, .int .i64 0, .slice none 0 0, .int .u8 0, .int .u8 0, .int .u8 0, .int .u8 0, .int .u8 0, .int .u8 0, .int .u8 0, .int .u8 0, .int .u8 0, .int .u8 0, .int .u8 0, .int .u8 0, .int .u8 0, .int .u8 0, .int .u8 0, .int .u8 0, .int .u8 0, .int .u8 0, .int .u8 0, .int .u8 0, .int .u8 0, .int .u8 0, .int .u8 0, .int .u8 0, .int .u8 0, .int .u8 0, .int .u8 0, .int .u8 0, .int .u8 0, .int .u8 0, .int .u8 0, .int .u8 0, .slice none 0 0] := by rw [hW]; exact Blk.new _ _ _
  have hWs : W.heap.size = w.heap.size + 1 := by rw [hW]; simp
  go_enter Tryz.func30, Tryz.ntmps30
  go_upto_region 1 with fail
  rw [← hW]
  clear hW
  go_upto_region 3 with (go_at_call 95; (with_reducible refine (hrd _ hE).mono ?_); rintro e w1 ⟨g, rfl, hR1, hg1, hg2, hE1⟩)
  rw [hWs] at hR1 hg1
  have hR1 : RefS w1 (w.heap.size + 1) g (l, 0) := hR1
  obtain ⟨W0, hW0, hE0, -⟩ := box1 w1 #[.int .i64 0, .int .i64 0, .slice none 0 0, .string ⟨#[]⟩, .int .i64 0, .slice none 0 0, .int .u8 0, .int .u8 0, .int .u8 0, .int .u8 0, .int .u8 0, .int .u8 0, .int .u8 0, .int .u8 0, .int .u8 0, .int .u8 0, .int .u8 0, .int .u8 0, .int .u8 0, .int .u8 0, .int .u8 0, .int .u8 0, .int .u8 0, .int .u8 0, .int .u8 0, .int .u8 0, .int .u8 0, .int .u8 0, .int .u8 0, .int .u8 0, .int .u8 0, .int .u8 0, .int .u8 0, .int .u8 0, .int .u8 0, .int .u8 0, .int .u8 0, .int .u8 0, .slice none 0 0] 46
  rw [← hW0]
  have hEW : Ext w W0 := (hE.trans hE1).trans hE0
  have hG0 : QSt W0 W0 (w.heap.size + 1) g w1.heap.size 46 (ansA zAns (.slice none 0 0) (.slice none 0 0) (.slice none 0 0)) (l, 0) := ⟨RefAt.ext hR1 hE0, by rw [hW0]; exact Blk.new _ _ _, by omega, Holes.refl _ _ _⟩
  have hB0 : Blk W0 w.heap.size 46 #[.int .i64 0, .int .i64 0, .slice none 0 0, .string ⟨#[]⟩, .int .i64 0, .slice none 0 0, .int .u8 0, .int .u8 0, .int .u8 0, .int .u8 0, .int .u8 0, .int .u8 0, .int .u8 0, .int .u8 0, .int .u8 0, .int .u8 0, .int .u8 0, .int .u8 0, .int .u8 0, .int .u8 0, .int .u8 0, .int .u8 0, .int .u8 0, .int .u8 0, .int .u8 0, .int .u8 0, .int .u8 0, .int .u8 0, .int .u8 0, .int .u8 0, .int .u8 0, .int .u8 0, .int .u8 0, .int .u8 0, .int .u8 0, .int .u8 0, .int .u8 0, .int .u8 0, .slice none 0 0] := (B.ext hE1).ext hE0
  obtain ⟨q, hq⟩ : ∃ q, w1.heap.size = q := ⟨_, rfl⟩
  rw [hq] at hG0 ⊢
  have hgq := hG0.gq
  clear hW0 hR1 hg2 hE1 hq hE0 hrd B hE hWs
  go_upto_region 4 with (go_at_call 96; (with_reducible refine (rint_S hG0.rd).mono ?_); rintro e wa ⟨x1, s1, hp, hz1, rfl, hR2, hX2⟩; have HP1 := Lib.hid hp; clear hp; have hGa := (hG0).exc hR2 hX2; have cc := hGa.rs.cell 0 (v := .int .i64 0) rfl; have ff := hGa.rs.frozen 0)
  have hG1 : QSt _ (wa.setCell ⟨q, 0, none⟩ (.int .i64 x1)) (w.heap.size + 1) g q _ (ansA ⟨x1, 0, [], zTok, []⟩ (.slice none 0 0) (.slice none 0 0) (.slice none 0 0)) s1 := hGa.put 0 (.int .i64 x1)
  generalize wa.setCell ⟨q, 0, none⟩ (.int .i64 x1) = w2 at *
  clear cc ff hGa hR2 hX2 hG0
  go_upto_region 5 with (go_at_call 96; (with_reducible refine (rint_S hG1.rd).mono ?_); rintro e wa ⟨x2, s2, hp, hz2, rfl, hR2, hX2⟩; have HP2 := Lib.hid hp; clear hp; have hGa := (hG1).exc hR2 hX2; have cc := hGa.rs.cell 1 (v := .int .i64 0) rfl; have ff := hGa.rs.frozen 1)
  have hG2 : QSt _ (wa.setCell ⟨q, 1, none⟩ (.int .i64 x2)) (w.heap.size + 1) g q _ (ansA ⟨x1, x2, [], zTok, []⟩ (.slice none 0 0) (.slice none 0 0) (.slice none 0 0)) s2 := hGa.put 1 (.int .i64 x2)
  generalize wa.setCell ⟨q, 1, none⟩ (.int .i64 x2) = w3 at *
  clear cc ff hGa hR2 hX2 hG1
  have hct := rcount64 hG2.rd
  go_wp2_with (go_at_call 99; (with_reducible refine hct.mono ?_); rintro e w21 ⟨m, s10, hp10, hm, rfl, hR2, hX2⟩; have HPC := Lib.hid hp10; clear hp10; have hG21 := hG2.exc hR2 hX2; clear hR2 hX2)
  clear hct hG2
  have hb21 := hG21.bl
  have hqW : q < w21.heap.size := hG21.size
  have hEW21 : Ext w w21 := hb21.ext_ hEW (by omega) (by omega)
  have hB21 := hb21.blk hB0 (by omega) (by omega)
  have hG21 := hG21.rebase
  clear hb21 hEW hB0
  go_loopw [7] (fun i wr => ∃ (k : Nat) (v : Value) (rows : List Shn) (us : List Value) (s : St), k ≤ m ∧ i = .int .i64 k ∧ Hid (manyS shS k s10 = (rows, s)) ∧ QSt w21 wr (w.heap.size + 1) g q 46 (ansA ⟨x1, x2, [], zTok, []⟩ v (.slice none 0 0) (.slice none 0 0)) s ∧ wr.ownsRow w21.heap.size 70 6 v k (shRows (rows.zip us)) ∧ Hid (rows.length = k) ∧ Hid (us.length = k) ∧ (∀ x ∈ rows, shOk x) ∧ (∀ p ∈ rows.zip us, wr.ownsRow w21.heap.size 5 1 p.2 p.1.body.length (p.1.body.flatMap encB))) (fun i _ => m - (intOf i).toNat)
  case atStart => exact ⟨0, _, [], [], s10, by omega, rfl, Lib.hid rfl, hG21, (by simpa [shRows] using World.ownsRow_nil _ _ _ _), Lib.hid rfl, Lib.hid rfl, (fun x hx => by cases hx), (fun p hp => by simp at hp)⟩
  case round =>
    clear hG21
    obtain ⟨k, v, rows, us, s, hkm, rfl, HB, hG, hown, HL, HU, hrl, hel⟩ := hrel
    have hs21 := hG.bl.size
    by_cases hlt : k < m
    · go_upto_region 10 with fail
      have hb6 : Below w21.heap.size wr (wr.alloc (.cells #[.string ⟨#[]⟩, .string ⟨#[]⟩, .int .i64 0, .int .i64 0, .int .i64 0, .slice none 0 0] 70)) := (Below.refl _ _).alloc hs21 _
      have hT6 := hG.up hb6 hqW
      have B6 := Blk.new wr 70 #[.string ⟨#[]⟩, .string ⟨#[]⟩, .int .i64 0, .int .i64 0, .int .i64 0, .slice none 0 0]
      have hX6 : Exc g (g + 1) wr (wr.alloc (.cells #[.string ⟨#[]⟩, .string ⟨#[]⟩, .int .i64 0, .int .i64 0, .int .i64 0, .slice none 0 0] 70)) := Ext.exc ((Ext.refl _).alloc _)
      have hgp6' : g + 1 ≤ wr.heap.size := by have := hG.gq; have := hG.size; omega
      obtain ⟨p6, hp6⟩ : ∃ p, wr.heap.size = p := ⟨_, rfl⟩
      have hwr6 : wr.heap.size ≤ p6 := by omega
      have hgp6 : g + 1 ≤ p6 := by omega
      have hsp6 : w21.heap.size ≤ p6 := by omega
      rw [hp6] at B6 ⊢
      generalize wr.alloc (.cells #[.string ⟨#[]⟩, .string ⟨#[]⟩, .int .i64 0, .int .i64 0, .int .i64 0, .slice none 0 0] 70) = w6 at *
      clear hb6 hG hp6 hgp6'
      go_upto_region 11 with (go_at_call 98; (with_reducible refine (rtext24c hT6.rd).mono ?_); rintro e wa ⟨x21, s21, hp, hz21, rfl, hR2, hX2⟩; have HP21 := Lib.hid hp; clear hp; have Ba := hX2.blk B6 (.inr hgp6); have bc := Ba.cell 0 (v := .string ⟨#[]⟩) rfl; have bf := Ba.frozen 0)
      have hT7 := ((hT6).exc hR2 hX2).up (Below.setCell (p := ⟨p6, 0, none⟩) (Below.refl w21.heap.size wa) (by show w21.heap.size ≤ p6; omega) (.string x21)) hqW
      have B7 := Ba.set_ 0 (.string x21)
      have hX7 := ((hX6).trans hX2).above (Exc.setCell (lo := p6) (hi := p6 + 1) (w := wa) (p := ⟨p6, 0, none⟩) (Nat.le_refl _) (Nat.lt_succ_self _) (.string x21)) hwr6
      generalize (wa).setCell ⟨p6, 0, none⟩ (.string x21) = w7 at *
      simp only [zzA, zz0, zzS] at B7
      clear bc bf Ba hR2 hX2 hT6 B6 hX6
      go_upto_region 12 with (go_at_call 98; (with_reducible refine (rtext24c hT7.rd).mono ?_); rintro e wa ⟨x22, s22, hp, hz22, rfl, hR2, hX2⟩; have HP22 := Lib.hid hp; clear hp; have Ba := hX2.blk B7 (.inr hgp6); have bc := Ba.cell 1 (v := .string ⟨#[]⟩) rfl; have bf := Ba.frozen 1)
      have hT8 := ((hT7).exc hR2 hX2).up (Below.setCell (p := ⟨p6, 1, none⟩) (Below.refl w21.heap.size wa) (by show w21.heap.size ≤ p6; omega) (.string x22)) hqW
      have B8 := Ba.set_ 1 (.string x22)
      have hX8 := ((hX7).trans hX2).above (Exc.setCell (lo := p6) (hi := p6 + 1) (w := wa) (p := ⟨p6, 1, none⟩) (Nat.le_refl _) (Nat.lt_succ_self _) (.string x22)) hwr6
      generalize (wa).setCell ⟨p6, 1, none⟩ (.string x22) = w8 at *
      simp only [zzA, zz0, zzS] at B8
      clear bc bf Ba hR2 hX2 hT7 B7 hX7
      go_upto_region 13 with (go_at_call 96; (with_reducible refine (rint_S hT8.rd).mono ?_); rintro e wa ⟨x23, s23, hp, hz23, rfl, hR2, hX2⟩; have HP23 := Lib.hid hp; clear hp; have Ba := hX2.blk B8 (.inr hgp6); have bc := Ba.cell 2 (v := .int .i64 0) rfl; have bf := Ba.frozen 2)
      have hT9 := ((hT8).exc hR2 hX2).up (Below.setCell (p := ⟨p6, 2, none⟩) (Below.refl w21.heap.size wa) (by show w21.heap.size ≤ p6; omega) (.int .i64 x23)) hqW
      have B9 := Ba.set_ 2 (.int .i64 x23)
      have hX9 := ((hX8).trans hX2).above (Exc.setCell (lo := p6) (hi := p6 + 1) (w := wa) (p := ⟨p6, 2, none⟩) (Nat.le_refl _) (Nat.lt_succ_self _) (.int .i64 x23)) hwr6
      generalize (wa).setCell ⟨p6, 2, none⟩ (.int .i64 x23) = w9 at *
      simp only [zzA, zz0, zzS] at B9
      clear bc bf Ba hR2 hX2 hT8 B8 hX8
      go_upto_region 14 with (go_at_call 96; (with_reducible refine (rint_S hT9.rd).mono ?_); rintro e wa ⟨x24, s24, hp, hz24, rfl, hR2, hX2⟩; have HP24 := Lib.hid hp; clear hp; have Ba := hX2.blk B9 (.inr hgp6); have bc := Ba.cell 3 (v := .int .i64 0) rfl; have bf := Ba.frozen 3)
      have hT10 := ((hT9).exc hR2 hX2).up (Below.setCell (p := ⟨p6, 3, none⟩) (Below.refl w21.heap.size wa) (by show w21.heap.size ≤ p6; omega) (.int .i64 x24)) hqW
      have B10 := Ba.set_ 3 (.int .i64 x24)
      have hX10 := ((hX9).trans hX2).above (Exc.setCell (lo := p6) (hi := p6 + 1) (w := wa) (p := ⟨p6, 3, none⟩) (Nat.le_refl _) (Nat.lt_succ_self _) (.int .i64 x24)) hwr6
      generalize (wa).setCell ⟨p6, 3, none⟩ (.int .i64 x24) = w10 at *
      simp only [zzA, zz0, zzS] at B10
      clear bc bf Ba hR2 hX2 hT9 B9 hX9
      go_upto_region 15 with (go_at_call 96; (with_reducible refine (rint_S hT10.rd).mono ?_); rintro e wa ⟨x25, s25, hp, hz25, rfl, hR2, hX2⟩; have HP25 := Lib.hid hp; clear hp; have Ba := hX2.blk B10 (.inr hgp6); have bc := Ba.cell 4 (v := .int .i64 0) rfl; have bf := Ba.frozen 4)
      have hT11 := ((hT10).exc hR2 hX2).up (Below.setCell (p := ⟨p6, 4, none⟩) (Below.refl w21.heap.size wa) (by show w21.heap.size ≤ p6; omega) (.int .i64 x25)) hqW
      have B11 := Ba.set_ 4 (.int .i64 x25)
      have hX11 := ((hX10).trans hX2).above (Exc.setCell (lo := p6) (hi := p6 + 1) (w := wa) (p := ⟨p6, 4, none⟩) (Nat.le_refl _) (Nat.lt_succ_self _) (.int .i64 x25)) hwr6
      generalize (wa).setCell ⟨p6, 4, none⟩ (.int .i64 x25) = w11 at *
      simp only [zzA, zz0, zzS] at B11
      clear bc bf Ba hR2 hX2 hT10 B10 hX10
      have hbl := rblob256 hT11.rd
      have hp11 : p6 + 1 ≤ w11.heap.size := B11.lt
      go_upto_region 16 with (go_at_call 100; (with_reducible refine hbl.mono ?_); rintro e wa ⟨u1, x26, s26, hp26, hz26, rfl, hu1, hR2, hX2⟩; have HP26 := Lib.hid hp26; obtain ⟨A1, c1, rfl⟩ := own_val' hu1; have Ba := hX2.blk B11 (.inr hgp6); have bc := Ba.cell 5 (v := .slice none 0 0) rfl; have bf := Ba.frozen 5)
      have hT12 := (hT11.exc hR2 hX2).up (Below.setCell (p := ⟨p6, 5, none⟩) (Below.refl w21.heap.size wa) (by show w21.heap.size ≤ p6; omega) (.slice A1 x26.length c1)) hqW
      have B12 := Ba.set_ 5 (.slice A1 x26.length c1)
      have hX12 := (hX11.trans hX2).above (Exc.setCell (lo := p6) (hi := p6 + 1) (w := wa) (p := ⟨p6, 5, none⟩) (Nat.le_refl _) (Nat.lt_succ_self _) (.slice A1 x26.length c1)) hwr6
      have hu2 := own_base (base' := w21.heap.size) (own_set hu1 (p := ⟨p6, 5, none⟩) (by show p6 < _; omega) (.slice A1 x26.length c1)) (by omega)
      generalize wa.setCell ⟨p6, 5, none⟩ (.slice A1 x26.length c1) = w12 at *
      clear bc bf Ba hR2 hX2 hT11 B11 hX11 hu1 hbl hp26
      obtain ⟨x1', hx1'⟩ : ∃ z : Shn, (⟨x21, x22, x23, x24, x25, x26⟩ : Shn) = z := ⟨_, rfl⟩
      have B12 : Blk w12 p6 70 (shA x1' (.slice A1 x26.length c1)) := by rw [← hx1']; exact B12
      have hxb : x1'.body = x26 := by rw [← hx1']
      have hz1 : shOk x1' := by rw [← hx1']; exact ⟨hz21, hz22, hz23, hz24, hz25, hz26⟩
      have HB1 : Hid (shS s = (x1', s26)) := Lib.hid (by rw [← hx1']; exact sh_step HP21.out HP22.out HP23.out HP24.out HP25.out HP26.out)
      rw [← hxb] at hu2 B12
      clear hx1' HP21 HP22 HP23 HP24 HP25 HP26 hz21 hz22 hz23 hz24 hz25 hz26 hxb
      have hl := load_whole B12 70 _ Tryz.underlying70 rfl (by kernel_rfl)
      have hfo := fold_all (Z := #[.string ⟨#[]⟩, .string ⟨#[]⟩, .int .i64 0, .int .i64 0, .int .i64 0, .slice none 0 0]) (C := shA x1' (.slice A1 x1'.body.length c1)) (n := 6) (by decide) rfl rfl
      have h1 : ∀ u ∈ (shA x1' (.slice A1 x1'.body.length c1)).toList, u.oneCell' = true := fun u hu => Array.all_eq_true_iff_forall_mem.1 (one_shA x1' (.slice A1 x1'.body.length c1) rfl) u (by simpa using hu)
      have hsz1 := sh_size x1' (.slice A1 x1'.body.length c1)
      have hown2 := own_excB hown hX12 (by omega)
      have hel2 := fun p hp => own_excB (hel p hp) hX12 (by omega)
      have hs12 : w21.heap.size ≤ w12.heap.size := by have := hX12.size; omega
      have c2 := hT12.rs.cell 2 (v := v) rfl
      have HEL := Lib.hid hel2
      have HU2' := Lib.hid hu2
      generalize hCC : shA x1' (.slice A1 x1'.body.length c1) = C2 at *
      have HC := Lib.hid hCC
      clear hCC hown hel hX12 B12 hu2 hel2
      go_wp2_with (first | (refine wpList_load_by rfl rfl ?_ hl ?_; (· rfl)) | (at_builtin; refine wpList_append_cells (news := C2.toList) rfl elt_Shown (.tmp 45) (.tmp 47) rfl (hown2.alloc _) rfl rfl ?c0 ?c1 ?c2 ?c3 ?c4 ?_))
      case c0 => exact ⟨by simp [hsz1], (fun h => by cases h), fun ad h j u hu => (by cases h; exact new_cells w12 _ C2 j u hu)⟩
      case c1 => exact h1
      case c2 => unfold maxLen; omega
      case c3 => omega
      case c4 => simp; omega
      intro v' w13 hown' hgrow
      have hb13 : Below w21.heap.size w12 w13 := below_grown ((Below.refl _ _).alloc hs12 (.cells C2 70)) (by simp; omega) (hown2.alloc _) hgrow (Nat.le_refl _)
      have hT13 := hT12.up hb13 hqW
      have hkeep : ∀ (u : Value) (m : Nat) (cs : List Value), w12.ownsRow w21.heap.size 5 1 u m cs → w13.ownsRow w21.heap.size 5 1 u m cs := fun u m cs h =>
        (h.alloc _).kept hgrow (own_ne (h.alloc (.cells C2 70)) (hown2.alloc _) (by decide))
      obtain ⟨A7, c7, rfl⟩ := own_val' hown'
      have d2 := hT13.rs.cell 2 (v := v) rfl
      have g2 := hT13.rs.frozen 2
      have hT14 : QSt w21 (w13.setCell ⟨q, 2, none⟩ (.slice A7 (k + 1) c7)) (w.heap.size + 1) g q 46 (ansA ⟨x1, x2, [], zTok, []⟩ (.slice A7 (k + 1) c7) (.slice none 0 0) (.slice none 0 0)) s26 := hT13.put 2 (.slice A7 (k + 1) c7)
      have hzs := zip_snoc2 rows us (.slice A1 x1'.body.length c1) x1' (by rw [HL.out, HU.out])
      have hrow : Hid ((w13.setCell ⟨q, 2, none⟩ (.slice A7 (k + 1) c7)).ownsRow w21.heap.size 70 6 (.slice A7 (k + 1) c7) (k + 1) (shRows ((rows ++ [x1']).zip (us ++ [Value.slice A1 x1'.body.length c1])))) := Lib.hid (by
        rw [hzs, shRows_snoc, HC.out]
        exact own_set (by simpa using hown') (p := ⟨q, 2, none⟩) hqW _)
      have hels : Hid (∀ p ∈ (rows ++ [x1']).zip (us ++ [Value.slice A1 x1'.body.length c1]), (w13.setCell ⟨q, 2, none⟩ (.slice A7 (k + 1) c7)).ownsRow w21.heap.size 5 1 p.2 p.1.body.length (p.1.body.flatMap encB)) := Lib.hid (fun p hp => by
        rw [hzs] at hp
        rcases List.mem_append.1 hp with hp | hp
        · exact own_set (hkeep _ _ _ (HEL.out p hp)) (p := ⟨q, 2, none⟩) hqW _
        · obtain rfl : p = (x1', Value.slice A1 x1'.body.length c1) := by simpa using hp
          exact own_set (hkeep _ _ _ HU2'.out) (p := ⟨q, 2, none⟩) hqW _)
      have hrl2 : ∀ y ∈ rows ++ [x1'], shOk y := fun y hy => by
        rcases List.mem_append.1 hy with hy | hy
        · exact hrl y hy
        · obtain rfl : y = x1' := by simpa using hy
          exact hz1
      have HB2 : Hid (manyS shS (k + 1) s10 = (rows ++ [x1'], s26)) := Lib.hid (by rw [manyS, HB.out]; simp only [HB1.out])
      have HL2 : Hid ((rows ++ [x1']).length = k + 1) := Lib.hid (by rw [List.length_append, HL.out]; rfl)
      have HU2 : Hid ((us ++ [Value.slice A1 x1'.body.length c1]).length = k + 1) := Lib.hid (by rw [List.length_append, HU.out]; rfl)
      clear hgrow hown' hown2 HEL HU2' hT12 hb13 hkeep hl hfo h1 hsz1 c2 hzs hrl HB HL HU HB1 hT13
      go_wp2_with fail
      generalize w13.setCell ⟨q, 2, none⟩ (.slice A7 (k + 1) c7) = w14 at *
      clear d2 g2
      go_roundw
      case rel => exact ⟨k + 1, _, rows ++ [x1'], _, s26, by omega, by go_num, HB2, hT14, hrow.out, HL2, HU2, hrl2, hels.out⟩
      case measure => simp [intOf]; omega
    · obtain rfl : k = m := by omega
      have HP3 : Hid (listS 64 shS s2 = (rows, s)) := Lib.hid (by unfold listS; simp only [HPC.out, Int.toNat_natCast]; exact HB.out)
      have hsh : HsV (only wr w21.heap.size wr.heap.size) rows v := by
        have hzl : (rows.zip us).length = k := by simp [HL.out, HU.out]
        have hfst : (rows.zip us).map Prod.fst = rows := by rw [List.map_fst_zip (by rw [HL.out, HU.out]; exact Nat.le_refl _)]
        obtain ⟨A', c', hv', hc', -, hS'⟩ := own_onlyP (d := rdSh) (f := fun p : Shn × Value => shA p.1 p.2) (g := Prod.fst) (fun _ => rfl) (lo := w21.heap.size) (hi := wr.heap.size) (lo' := w21.heap.size) (hi' := wr.heap.size) (w := wr) (wk := wr) (l := rows.zip us) (fun p hp => by
          obtain ⟨A3, c3, e3, b1, _, b2⟩ := own_bytes (hel p hp) (Nat.le_refl _) (Nat.le_refl _)
          exact sh_K ⟨A3, c3, e3, b1, b2⟩) (fun b cs h1 h2 hh i v hv => cell_only hh h1 h2 hv) (by rw [hzl]; exact hown) (Nat.le_refl _) (Nat.le_refl _)
        rw [hfst] at hS'
        rw [hzl] at hv' hc' hS'
        exact ⟨A', c', by rw [HL.out]; exact hv', by rw [HL.out]; exact hc', by rw [HL.out]; exact hS'⟩
      obtain ⟨A9, c9, hv9, -⟩ := id hsh
      have hbl := hG.bl
      have hEr : Ext w wr := hbl.ext_ hEW21 (by omega) (by omega)
      have hBr := hbl.blk hB21 (by omega) (by omega)
      subst hv9
      have hG30 : QSt wr wr (w.heap.size + 1) g q 46 (ansA ⟨x1, x2, rows, zTok, []⟩ (.slice A9 rows.length c9) (.slice none 0 0) (.slice none 0 0)) s := hG.rebase
      clear hown hel hG hbl hB21 HB hEW21 HPC HU
      obtain ⟨b0, hb0⟩ : ∃ b, w21.heap.size = b := ⟨_, rfl⟩
      rw [hb0] at hsh hqW hs21
      clear hb0
      have htr := rtread_any hG30.rd
      unfold TokRdP at htr
      have hqs := hG30.size
      go_upto_region 18 with (first | (go_at_call 97; (with_reducible refine htr.mono ?_); rintro e w4 ⟨t, sT, a, hpT, htb, rfl, hT4, hR4, hX4⟩; have HPT := Lib.hid hpT; have hGa := hG30.exc hR4 hX4; have hat : a.oneCell' = true := (by obtain ⟨_, _, rfl, _⟩ := hT4; rfl); obtain ⟨w5, hr5, B5, hX5⟩ := store_part hGa.rs 3 (tokA t a) [.int .i64 x1, .int .i64 x2, .slice A9 rows.length c9] (tokA zTok (.slice none 0 0)).toList [.slice none 0 0] rfl rfl rfl 26 (by kernel_rfl) (one_tok _ _ hat); clear hpT htr) | (refine wpList_store_by rfl rfl ?_ ?_ hr5 ?_; (· rfl); (· rfl)))
      have B5 : Blk w5 q 46 (ansA ⟨x1, x2, rows, t, []⟩ (.slice A9 rows.length c9) a (.slice none 0 0)) := B5
      have hG5 := hGa.store hX5 B5
      obtain ⟨l1, hl1⟩ : ∃ z, wr.heap.size = z := ⟨_, rfl⟩
      obtain ⟨h1, hh1⟩ : ∃ z, w4.heap.size = z := ⟨_, rfl⟩
      have hbl := hG5.bl
      rw [hl1] at hqs hT4 hsh hs21
      rw [hh1] at hT4
      have hT5 : GsV (only w5 l1 h1) t.gs a := by
        rw [hX5.only (by omega) (.inr (by omega))]
        exact hT4
      have hsh5 : HsV (only w5 b0 l1) rows (.slice A9 rows.length c9) := by
        rw [hbl.only (by omega) (by omega) (by omega)]
        exact hsh
      have hz5 : h1 ≤ w5.heap.size := by rw [← hh1]; exact hX5.size
      have hl5 : l1 ≤ h1 := by rw [← hl1, ← hh1]; exact hX4.size
      have hEW5 : Ext w w5 := hbl.ext_ hEr (by omega) (by omega)
      have hB5 := hbl.blk hBr (by omega) (by omega)
      clear hr5 B5 hX5 hGa hX4 hR4 hT4 hG30 hl1 hh1 hEr hBr hsh hbl
      have hct := rcount64 hG5.rd
      go_wp2_with (go_at_call 99; (with_reducible refine hct.mono ?_); rintro e w21 ⟨m2, s31, hp31, hm2, rfl, hR2, hX2⟩; have HPC := Lib.hid hp31; clear hp31; have hG21 := hG5.exc hR2 hX2)
      have hT21 : GsV (only w21 l1 h1) t.gs a := by
        rw [hX2.only (by omega) (.inr (by omega))]
        exact hT5
      have hsh21 : HsV (only w21 b0 l1) rows (.slice A9 rows.length c9) := by
        rw [hX2.only (by omega) (.inr (by omega))]
        exact hsh5
      have hz21 : h1 ≤ w21.heap.size := Nat.le_trans hz5 hX2.size
      have hEW21 : Ext w w21 := Exc.ext hEW5 hX2 (by omega)
      have hB21 := hX2.blk hB5 (.inl (by omega))
      have hG21 := hG21.rebase
      have hb0q := hqW
      have hqW : q < w21.heap.size := hG21.size
      clear hct hG5 hR2 hX2 hT5 hsh5 hEW5 hB5 hz5
      go_loopw [9] (fun i wr => ∃ (j : Nat) (v : Value) (es : List Ent) (s : St), j ≤ m2 ∧ i = .int .i64 j ∧ Hid (manyS enS j s31 = (es, s)) ∧ QSt w21 wr (w.heap.size + 1) g q 46 (ansA ⟨x1, x2, rows, t, []⟩ (.slice A9 rows.length c9) a v) s ∧ wr.ownsRow w21.heap.size 72 39 v j (es.flatMap fun x => (enA x).toList) ∧ Hid (es.length = j) ∧ (∀ x ∈ es, enOk x)) (fun i _ => m2 - (intOf i).toNat)
      case atStart => exact ⟨0, _, [], s31, by omega, rfl, Lib.hid rfl, hG21, World.ownsRow_nil _ _ _ _, Lib.hid rfl, (fun x hx => by cases hx)⟩
      case round =>
        clear hG21
        obtain ⟨j, v, es, s', hjm, rfl, HB, hG, hown, HLE, hel⟩ := hrel
        have hs21 := hG.bl.size
        by_cases hlt : j < m2
        · go_upto_region 23 with fail
          have hb6 : Below w21.heap.size wr (wr.alloc (.cells #[.int .i64 0, .int .i64 0, .int .i64 0, .int .i64 0, .int .i64 0, .string ⟨#[]⟩, .string ⟨#[]⟩, .int .u8 0, .int .u8 0, .int .u8 0, .int .u8 0, .int .u8 0, .int .u8 0, .int .u8 0, .int .u8 0, .int .u8 0, .int .u8 0, .int .u8 0, .int .u8 0, .int .u8 0, .int .u8 0, .int .u8 0, .int .u8 0, .int .u8 0, .int .u8 0, .int .u8 0, .int .u8 0, .int .u8 0, .int .u8 0, .int .u8 0, .int .u8 0, .int .u8 0, .int .u8 0, .int .u8 0, .int .u8 0, .int .u8 0, .int .u8 0, .int .u8 0, .int .u8 0] 72)) := (Below.refl _ _).alloc hs21 _
          have hT6 := hG.up hb6 hqW
          have B6 := Blk.new wr 72 #[.int .i64 0, .int .i64 0, .int .i64 0, .int .i64 0, .int .i64 0, .string ⟨#[]⟩, .string ⟨#[]⟩, .int .u8 0, .int .u8 0, .int .u8 0, .int .u8 0, .int .u8 0, .int .u8 0, .int .u8 0, .int .u8 0, .int .u8 0, .int .u8 0, .int .u8 0, .int .u8 0, .int .u8 0, .int .u8 0, .int .u8 0, .int .u8 0, .int .u8 0, .int .u8 0, .int .u8 0, .int .u8 0, .int .u8 0, .int .u8 0, .int .u8 0, .int .u8 0, .int .u8 0, .int .u8 0, .int .u8 0, .int .u8 0, .int .u8 0, .int .u8 0, .int .u8 0, .int .u8 0]
          have hX6 : Exc g (g + 1) wr (wr.alloc (.cells #[.int .i64 0, .int .i64 0, .int .i64 0, .int .i64 0, .int .i64 0, .string ⟨#[]⟩, .string ⟨#[]⟩, .int .u8 0, .int .u8 0, .int .u8 0, .int .u8 0, .int .u8 0, .int .u8 0, .int .u8 0, .int .u8 0, .int .u8 0, .int .u8 0, .int .u8 0, .int .u8 0, .int .u8 0, .int .u8 0, .int .u8 0, .int .u8 0, .int .u8 0, .int .u8 0, .int .u8 0, .int .u8 0, .int .u8 0, .int .u8 0, .int .u8 0, .int .u8 0, .int .u8 0, .int .u8 0, .int .u8 0, .int .u8 0, .int .u8 0, .int .u8 0, .int .u8 0, .int .u8 0] 72)) := Ext.exc ((Ext.refl _).alloc _)
          have hgp6' : g + 1 ≤ wr.heap.size := by have := hG.gq; have := hG.size; omega
          obtain ⟨p6, hp6⟩ : ∃ p, wr.heap.size = p := ⟨_, rfl⟩
          have hwr6 : wr.heap.size ≤ p6 := by omega
          have hgp6 : g + 1 ≤ p6 := by omega
          have hsp6 : w21.heap.size ≤ p6 := by omega
          rw [hp6] at B6 ⊢
          generalize wr.alloc (.cells #[.int .i64 0, .int .i64 0, .int .i64 0, .int .i64 0, .int .i64 0, .string ⟨#[]⟩, .string ⟨#[]⟩, .int .u8 0, .int .u8 0, .int .u8 0, .int .u8 0, .int .u8 0, .int .u8 0, .int .u8 0, .int .u8 0, .int .u8 0, .int .u8 0, .int .u8 0, .int .u8 0, .int .u8 0, .int .u8 0, .int .u8 0, .int .u8 0, .int .u8 0, .int .u8 0, .int .u8 0, .int .u8 0, .int .u8 0, .int .u8 0, .int .u8 0, .int .u8 0, .int .u8 0, .int .u8 0, .int .u8 0, .int .u8 0, .int .u8 0, .int .u8 0, .int .u8 0, .int .u8 0] 72) = w6 at *
          clear hb6 hG hp6 hgp6'
          go_upto_region 24 with (go_at_call 96; (with_reducible refine (rint_S hT6.rd).mono ?_); rintro e wa ⟨x21, s21, hp, hz21, rfl, hR2, hX2⟩; have HP21 := Lib.hid hp; clear hp; have Ba := hX2.blk B6 (.inr hgp6); have bc := Ba.cell 0 (v := .int .i64 0) rfl; have bf := Ba.frozen 0)
          have hT7 := ((hT6).exc hR2 hX2).up (Below.setCell (p := ⟨p6, 0, none⟩) (Below.refl w21.heap.size wa) (by show w21.heap.size ≤ p6; omega) (.int .i64 x21)) hqW
          have B7 := Ba.set_ 0 (.int .i64 x21)
          have hX7 := ((hX6).trans hX2).above (Exc.setCell (lo := p6) (hi := p6 + 1) (w := wa) (p := ⟨p6, 0, none⟩) (Nat.le_refl _) (Nat.lt_succ_self _) (.int .i64 x21)) hwr6
          generalize (wa).setCell ⟨p6, 0, none⟩ (.int .i64 x21) = w7 at *
          simp only [zzA, zz0, zzS] at B7
          clear bc bf Ba hR2 hX2 hT6 B6 hX6
          go_upto_region 25 with (go_at_call 96; (with_reducible refine (rint_S hT7.rd).mono ?_); rintro e wa ⟨x22, s22, hp, hz22, rfl, hR2, hX2⟩; have HP22 := Lib.hid hp; clear hp; have Ba := hX2.blk B7 (.inr hgp6); have bc := Ba.cell 1 (v := .int .i64 0) rfl; have bf := Ba.frozen 1)
          have hT8 := ((hT7).exc hR2 hX2).up (Below.setCell (p := ⟨p6, 1, none⟩) (Below.refl w21.heap.size wa) (by show w21.heap.size ≤ p6; omega) (.int .i64 x22)) hqW
          have B8 := Ba.set_ 1 (.int .i64 x22)
          have hX8 := ((hX7).trans hX2).above (Exc.setCell (lo := p6) (hi := p6 + 1) (w := wa) (p := ⟨p6, 1, none⟩) (Nat.le_refl _) (Nat.lt_succ_self _) (.int .i64 x22)) hwr6
          generalize (wa).setCell ⟨p6, 1, none⟩ (.int .i64 x22) = w8 at *
          simp only [zzA, zz0, zzS] at B8
          clear bc bf Ba hR2 hX2 hT7 B7 hX7
          go_upto_region 26 with (go_at_call 96; (with_reducible refine (rint_S hT8.rd).mono ?_); rintro e wa ⟨x23, s23, hp, hz23, rfl, hR2, hX2⟩; have HP23 := Lib.hid hp; clear hp; have Ba := hX2.blk B8 (.inr hgp6); have bc := Ba.cell 2 (v := .int .i64 0) rfl; have bf := Ba.frozen 2)
          have hT9 := ((hT8).exc hR2 hX2).up (Below.setCell (p := ⟨p6, 2, none⟩) (Below.refl w21.heap.size wa) (by show w21.heap.size ≤ p6; omega) (.int .i64 x23)) hqW
          have B9 := Ba.set_ 2 (.int .i64 x23)
          have hX9 := ((hX8).trans hX2).above (Exc.setCell (lo := p6) (hi := p6 + 1) (w := wa) (p := ⟨p6, 2, none⟩) (Nat.le_refl _) (Nat.lt_succ_self _) (.int .i64 x23)) hwr6
          generalize (wa).setCell ⟨p6, 2, none⟩ (.int .i64 x23) = w9 at *
          simp only [zzA, zz0, zzS] at B9
          clear bc bf Ba hR2 hX2 hT8 B8 hX8
          go_upto_region 27 with (go_at_call 96; (with_reducible refine (rint_S hT9.rd).mono ?_); rintro e wa ⟨x24, s24, hp, hz24, rfl, hR2, hX2⟩; have HP24 := Lib.hid hp; clear hp; have Ba := hX2.blk B9 (.inr hgp6); have bc := Ba.cell 3 (v := .int .i64 0) rfl; have bf := Ba.frozen 3)
          have hT10 := ((hT9).exc hR2 hX2).up (Below.setCell (p := ⟨p6, 3, none⟩) (Below.refl w21.heap.size wa) (by show w21.heap.size ≤ p6; omega) (.int .i64 x24)) hqW
          have B10 := Ba.set_ 3 (.int .i64 x24)
          have hX10 := ((hX9).trans hX2).above (Exc.setCell (lo := p6) (hi := p6 + 1) (w := wa) (p := ⟨p6, 3, none⟩) (Nat.le_refl _) (Nat.lt_succ_self _) (.int .i64 x24)) hwr6
          generalize (wa).setCell ⟨p6, 3, none⟩ (.int .i64 x24) = w10 at *
          simp only [zzA, zz0, zzS] at B10
          clear bc bf Ba hR2 hX2 hT9 B9 hX9
          go_upto_region 28 with (go_at_call 96; (with_reducible refine (rint_S hT10.rd).mono ?_); rintro e wa ⟨x25, s25, hp, hz25, rfl, hR2, hX2⟩; have HP25 := Lib.hid hp; clear hp; have Ba := hX2.blk B10 (.inr hgp6); have bc := Ba.cell 4 (v := .int .i64 0) rfl; have bf := Ba.frozen 4)
          have hT11 := ((hT10).exc hR2 hX2).up (Below.setCell (p := ⟨p6, 4, none⟩) (Below.refl w21.heap.size wa) (by show w21.heap.size ≤ p6; omega) (.int .i64 x25)) hqW
          have B11 := Ba.set_ 4 (.int .i64 x25)
          have hX11 := ((hX10).trans hX2).above (Exc.setCell (lo := p6) (hi := p6 + 1) (w := wa) (p := ⟨p6, 4, none⟩) (Nat.le_refl _) (Nat.lt_succ_self _) (.int .i64 x25)) hwr6
          generalize (wa).setCell ⟨p6, 4, none⟩ (.int .i64 x25) = w11 at *
          simp only [zzA, zz0, zzS] at B11
          clear bc bf Ba hR2 hX2 hT10 B10 hX10
          go_upto_region 29 with (go_at_call 98; (with_reducible refine (rtext24c hT11.rd).mono ?_); rintro e wa ⟨x26, s26, hp, hz26, rfl, hR2, hX2⟩; have HP26 := Lib.hid hp; clear hp; have Ba := hX2.blk B11 (.inr hgp6); have bc := Ba.cell 5 (v := .string ⟨#[]⟩) rfl; have bf := Ba.frozen 5)
          have hT12 := ((hT11).exc hR2 hX2).up (Below.setCell (p := ⟨p6, 5, none⟩) (Below.refl w21.heap.size wa) (by show w21.heap.size ≤ p6; omega) (.string x26)) hqW
          have B12 := Ba.set_ 5 (.string x26)
          have hX12 := ((hX11).trans hX2).above (Exc.setCell (lo := p6) (hi := p6 + 1) (w := wa) (p := ⟨p6, 5, none⟩) (Nat.le_refl _) (Nat.lt_succ_self _) (.string x26)) hwr6
          generalize (wa).setCell ⟨p6, 5, none⟩ (.string x26) = w12 at *
          simp only [zzA, zz0, zzS] at B12
          clear bc bf Ba hR2 hX2 hT11 B11 hX11
          go_upto_region 30 with (go_at_call 98; (with_reducible refine (rtext24c hT12.rd).mono ?_); rintro e wa ⟨x27, s27, hp, hz27, rfl, hR2, hX2⟩; have HP27 := Lib.hid hp; clear hp; have Ba := hX2.blk B12 (.inr hgp6); have bc := Ba.cell 6 (v := .string ⟨#[]⟩) rfl; have bf := Ba.frozen 6)
          have hT13 := ((hT12).exc hR2 hX2).up (Below.setCell (p := ⟨p6, 6, none⟩) (Below.refl w21.heap.size wa) (by show w21.heap.size ≤ p6; omega) (.string x27)) hqW
          have B13 := Ba.set_ 6 (.string x27)
          have hX13 := ((hX12).trans hX2).above (Exc.setCell (lo := p6) (hi := p6 + 1) (w := wa) (p := ⟨p6, 6, none⟩) (Nat.le_refl _) (Nat.lt_succ_self _) (.string x27)) hwr6
          generalize (wa).setCell ⟨p6, 6, none⟩ (.string x27) = w13 at *
          simp only [zzA, zz0, zzS] at B13
          clear bc bf Ba hR2 hX2 hT12 B12 hX12
          have hsm := rsum_S hT13.rd
          unfold SumP at hsm
          go_upto_region 31 with (first | (go_at_call 108; (with_reducible refine hsm.mono ?_); rintro e wa ⟨x28, s28, hp28, hz28, rfl, hR2, hX2⟩; have HP28 := Lib.hid hp28; have Ba := hX2.blk B13 (.inr hgp6); obtain ⟨wS, hrS, BS, hXS⟩ := store_part Ba 7 (macA x28) [.int .i64 x21, .int .i64 x22, .int .i64 x23, .int .i64 x24, .int .i64 x25, .string x26, .string x27] [.int .u8 0, .int .u8 0, .int .u8 0, .int .u8 0, .int .u8 0, .int .u8 0, .int .u8 0, .int .u8 0, .int .u8 0, .int .u8 0, .int .u8 0, .int .u8 0, .int .u8 0, .int .u8 0, .int .u8 0, .int .u8 0, .int .u8 0, .int .u8 0, .int .u8 0, .int .u8 0, .int .u8 0, .int .u8 0, .int .u8 0, .int .u8 0, .int .u8 0, .int .u8 0, .int .u8 0, .int .u8 0, .int .u8 0, .int .u8 0, .int .u8 0, .int .u8 0] [] rfl rfl rfl 24 (by kernel_rfl) (one_mac _); clear hp28 hsm) | (refine wpList_store_by rfl rfl ?_ ?_ hrS ?_; (· rfl); (· rfl)))
          have hpa : p6 < wa.heap.size := Ba.lt
          have hbS : Below w21.heap.size wa wS := ⟨hXS.os, hXS.tape, hXS.output, hXS.size, fun i hi => hXS.block i (by omega) (.inl (by omega))⟩
          have hT14 := (hT13.exc hR2 hX2).up hbS hqW
          have hX14 := (hX13.trans hX2).above hXS hwr6
          obtain ⟨x1', hx1'⟩ : ∃ z : Ent, (⟨x21, x22, x23, x24, x25, x26, x27, x28⟩ : Ent) = z := ⟨_, rfl⟩
          have B14 : Blk wS p6 72 (enA x1') := by rw [← hx1']; exact BS
          have hz1 : enOk x1' := by rw [← hx1']; exact ⟨hz21, hz22, hz23, hz24, hz25, hz26, hz27, hz28⟩
          have HB1 : Hid (enS s' = (x1', s28)) := Lib.hid (by rw [← hx1']; exact en_step HP21.out HP22.out HP23.out HP24.out HP25.out HP26.out HP27.out HP28.out)
          clear hx1' HP21 HP22 HP23 HP24 HP25 HP26 HP27 HP28 hz21 hz22 hz23 hz24 hz25 hz26 hz27 hz28 BS hbS hrS hXS Ba hR2 hX2 hT13 hX13 B13 hpa
          have hl := load_whole B14 72 _ Tryz.underlying72 rfl (by kernel_rfl)
          have hfo := fold_entry (M := enA x1') rfl
          have h1e := one_en x1'
          have hsz1 := enA_size x1'
          have hown2 := own_excB hown hX14 (by omega)
          have hs12 : w21.heap.size ≤ wS.heap.size := by have := hX14.size; omega
          have c38 := hT14.rs.cell 38 (v := v) rfl
          generalize hCC : enA x1' = C2 at *
          have HC := Lib.hid hCC
          clear hCC hown hX14 B14
          go_wp2_with (first | (refine wpList_load_by rfl rfl ?_ hl ?_; (· rfl)) | (at_builtin; refine wpList_append_cells (news := C2.toList) rfl elt_Entries (.tmp 85) (.tmp 87) rfl (hown2.alloc _) rfl rfl ?e0 ?e1 ?e2 ?e3 ?e4 ?_))
          case e0 => exact ⟨by simp [hsz1], (fun h => by cases h), fun ad h j u hu => (by cases h; exact new_cells wS _ C2 j u hu)⟩
          case e1 => exact fun u hu => h1e u (by simpa using hu)
          case e2 => unfold maxLen; omega
          case e3 => omega
          case e4 => first | (simp; omega) | omega
          intro v' w14 hown' hgrow
          have hb14 : Below w21.heap.size wS w14 := below_grown ((Below.refl _ _).alloc hs12 (.cells C2 72)) (by simp; omega) (hown2.alloc _) hgrow (Nat.le_refl _)
          have hT15 := hT14.up hb14 hqW
          obtain ⟨A7, c7, rfl⟩ := own_val' hown'
          have d38 := hT15.rs.cell 38 (v := v) rfl
          have g38 := hT15.rs.frozen 38
          have hT16 : QSt w21 (w14.setCell ⟨q, 38, none⟩ (.slice A7 (j + 1) c7)) (w.heap.size + 1) g q 46 (ansA ⟨x1, x2, rows, t, []⟩ (.slice A9 rows.length c9) a (.slice A7 (j + 1) c7)) s28 := hT15.put 38 (.slice A7 (j + 1) c7)
          have hrow : Hid ((w14.setCell ⟨q, 38, none⟩ (.slice A7 (j + 1) c7)).ownsRow w21.heap.size 72 39 (.slice A7 (j + 1) c7) (j + 1) ((es ++ [x1']).flatMap fun x => (enA x).toList)) := Lib.hid (by
            rw [List.flatMap_append]
            exact own_set (by simpa [HC.out] using hown') (p := ⟨q, 38, none⟩) hqW _)
          have hrl2 : ∀ y ∈ es ++ [x1'], enOk y := fun y hy => by
            rcases List.mem_append.1 hy with hy | hy
            · exact hel y hy
            · obtain rfl : y = x1' := by simpa using hy
              exact hz1
          have HB2 : Hid (manyS enS (j + 1) s31 = (es ++ [x1'], s28)) := Lib.hid (by rw [manyS, HB.out]; simp only [HB1.out])
          have HL2 : Hid ((es ++ [x1']).length = j + 1) := Lib.hid (by rw [List.length_append, HLE.out]; rfl)
          clear hgrow hown' hown2 hT14 hb14 hl hfo h1e hsz1 c38 hel HB HLE HB1 hT15
          go_wp2_with fail
          generalize w14.setCell ⟨q, 38, none⟩ (.slice A7 (j + 1) c7) = w15 at *
          clear d38 g38
          go_roundw
          case rel => exact ⟨j + 1, _, es ++ [x1'], s28, by omega, by go_num, HB2, hT16, hrow.out, HL2, hrl2⟩
          case measure => simp [intOf]; omega
        · obtain rfl : j = m2 := by omega
          have HP5 : Hid (listS 64 enS sT = (es, s')) := Lib.hid (by unfold listS; simp only [HPC.out, Int.toNat_natCast]; exact HB.out)
          have hes : EsV (only wr w21.heap.size wr.heap.size) es v := by
            obtain ⟨A', c', hv, h1', -, h2'⟩ := own_onlyM (d := rdEn) (f := enA) (fun _ => rfl) (lo := w21.heap.size) (hi := wr.heap.size) (l := es) (fun x hx w => en_K w x (hel x hx).2.2.2.2.2.2.2) (by rw [HLE.out]; exact hown) (Nat.le_refl _) (Nat.le_refl _)
            exact ⟨A', c', hv, h1', h2'⟩
          obtain ⟨A8, c8, hv8, -⟩ := id hes
          subst hv8
          obtain ⟨x, hx⟩ : ∃ x : Ans, (⟨x1, x2, rows, t, es⟩ : Ans) = x := ⟨_, rfl⟩
          have hG37 : QSt w21 wr (w.heap.size + 1) g q 46 (ansA x (.slice A9 rows.length c9) a (.slice A8 es.length c8)) s' := by rw [← hx]; exact hG
          have HS : Hid (ansS (l, 0) = (x, s')) := Lib.hid (by rw [← hx]; exact ans_step HP1.out HP2.out HP3.out HPT.out HP5.out)
          have hbl := hG37.bl
          have hE37 : Ext w wr := hbl.ext_ hEW21 (by omega) (by omega)
          have hB37 := hbl.blk hB21 (by omega) (by omega)
          have hatO : AnsAt (only wr (w.heap.size + 1) wr.heap.size) x (ansA x (.slice A9 rows.length c9) a (.slice A8 es.length c8)) := by
            rw [← hbl.only (by omega) (by omega) (by omega)] at hT21
            rw [← hbl.only (by omega) (by omega) (by omega)] at hsh21
            refine ⟨_, _, _, rfl, ?_, ?_, ?_⟩
            · rw [← hx]; exact hsh21.mono (only_wide (by omega) (by omega))
            · rw [← hx]; exact hT21.mono (only_wide (by omega) (by omega))
            · rw [← hx]; exact hes.mono (only_wide (by omega) (by omega))
          clear HP1 HP2 HP3 HPT HP5 hx hz1 hz2 htb hrl hel hG hown hT21 hsh21 hes HB HPC hbl hEW21 hB21
          have hl37 := fun (w' : World) (e : Ext wr w') => load_whole (hG37.rs.ext e) 46 _ Tryz.underlying46 rfl (by kernel_rfl)
          have hen := rend_S hG37.rd
          have hen2 := fun (w' : World) (e : Ext wr w') => rend_S (RefAt.ext hG37.rd e : RefS w' (w.heap.size + 1) g s')
          obtain ⟨ev, hev⟩ : ∃ z, endS s' = z := ⟨_, rfl⟩
          rw [hev] at hen hen2
          have HE := Lib.hid hev
          clear hev
          by_cases he : ev = 0
          · subst he
            go_upto_region 34 with (go_at_call 101; (with_reducible refine hen.mono ?_); rintro e w38 ⟨rfl, hE38⟩)
            obtain ⟨wF, hrF, BF, hXF⟩ := store_part (hB37.ext hE38) 0 (ansA x (.slice A9 rows.length c9) a (.slice A8 es.length c8)) [] [.int .i64 0, .int .i64 0, .slice none 0 0, .string ⟨#[]⟩, .int .i64 0, .slice none 0 0, .int .u8 0, .int .u8 0, .int .u8 0, .int .u8 0, .int .u8 0, .int .u8 0, .int .u8 0, .int .u8 0, .int .u8 0, .int .u8 0, .int .u8 0, .int .u8 0, .int .u8 0, .int .u8 0, .int .u8 0, .int .u8 0, .int .u8 0, .int .u8 0, .int .u8 0, .int .u8 0, .int .u8 0, .int .u8 0, .int .u8 0, .int .u8 0, .int .u8 0, .int .u8 0, .int .u8 0, .int .u8 0, .int .u8 0, .int .u8 0, .int .u8 0, .int .u8 0, .slice none 0 0] [] rfl rfl rfl 46 (by kernel_rfl) (one_ansT _ _ _ _ rfl hat rfl)
            have BF : Blk wF w.heap.size 46 (ansA x (.slice A9 rows.length c9) a (.slice A8 es.length c8)) := by simpa using BF
            refine wp_region_lit ?_
            refine pl_y (v := ?_) (a' := ?_) rfl (by rfl) ?_ ?_ ?_
            rotate_left 2
            · (refine (run_op_load rfl ?_ ((hl37 _ hE38))).trans ?_; (· rfl); (· with_reducible rfl))
            · simp only [Act.put, zzA, zz0, zzS]; rfl
            refine pl_store (by rfl) rfl (run_op_store rfl ?_ ?_ hrF) ?_
            · rfl
            · rfl
            (first | (refine pl_off (a' := ?_) rfl (by rfl) ?_ ?_; rotate_left 1; (· simp only [Act.put, zzA, zz0, zzS]; rfl)) | (refine pl_y (v := ?_) (a' := ?_) rfl (by rfl) ?_ ?_ ?_; rotate_left 2; (· go_simp; with_reducible rfl); (· simp only [Act.put, zzA, zz0, zzS]; rfl)))
            refine wpList_nil ?_
            go_wp2_with fail
            refine bodyPost_ret (v := .tuple #[.agg (ansA x (.slice A9 rows.length c9) a (.slice A8 es.length c8)), .int .i64 0]) (results_row_tmp (fn := Tryz.f30) rfl _ wF w.heap.size _ _ _ _ rfl BF Tryz.underlying46 rfl (by kernel_rfl) rfl) rfl ?_
            rw [← HP.out]
            have e1 : only w38 (w.heap.size + 1) wr.heap.size = only wr (w.heap.size + 1) wr.heap.size := only_ext hE38 (Nat.le_refl _)
            have e2 : only wF (w.heap.size + 1) wr.heap.size = only w38 (w.heap.size + 1) wr.heap.size := hXF.only hE38.le (.inr (Nat.le_refl _))
            rw [← e1, ← e2] at hatO
            exact rgetA_full (by unfold getA; rw [HS.out]; simp only [HE.out]; simp) (hatO.mono (only_wide (Nat.le_succ _) (Nat.le_trans hE38.le hXF.size))) (Exc.ext (hE37.trans hE38) hXF (Nat.le_refl _))
          · have he' : (ev != 0) = true := by simpa using he
            have he2 : (ev == 0) = false := by simpa using he
            go_upto_region 33 with (go_at_call 101; (with_reducible refine hen.mono ?_); rintro e w38 ⟨rfl, hE38⟩)
            refine wp_region_lit ?_
            iterate 2 (first | (refine pl_off (a' := ?_) rfl (by rfl) ?_ ?_; rotate_left 1; (· simp only [Act.put, zzA, zz0, zzS]; rfl)) | (refine pl_y (v := ?_) (a' := ?_) rfl (by rfl) ?_ ?_ ?_; rotate_left 2; (· go_simp; with_reducible rfl); (· simp only [Act.put, zzA, zz0, zzS]; rfl)))
            refine pl_call (args := ?_) Tryz.func101 (by kernel_rfl) rfl (by rfl) rfl rfl ?_ ?_
            rotate_left 1
            · go_simp; with_reducible rfl
            (with_reducible refine (hen2 _ hE38).mono ?_)
            rintro e w39 ⟨rfl, hE39⟩
            refine ⟨_, _, rfl, (by simp only [Act.put, zzA, zz0, zzS]; rfl), ?_⟩
            have hE389 := hE38.trans hE39
            have hDd := hB37.ext hE389
            obtain ⟨wF, hrF, BF, hXF⟩ := store_part hDd 0 (ansA zAns (.slice none 0 0) (.slice none 0 0) (.slice none 0 0)) [] [.int .i64 0, .int .i64 0, .slice none 0 0, .string ⟨#[]⟩, .int .i64 0, .slice none 0 0, .int .u8 0, .int .u8 0, .int .u8 0, .int .u8 0, .int .u8 0, .int .u8 0, .int .u8 0, .int .u8 0, .int .u8 0, .int .u8 0, .int .u8 0, .int .u8 0, .int .u8 0, .int .u8 0, .int .u8 0, .int .u8 0, .int .u8 0, .int .u8 0, .int .u8 0, .int .u8 0, .int .u8 0, .int .u8 0, .int .u8 0, .int .u8 0, .int .u8 0, .int .u8 0, .int .u8 0, .int .u8 0, .int .u8 0, .int .u8 0, .int .u8 0, .int .u8 0, .slice none 0 0] [] rfl rfl rfl 46 (by kernel_rfl) (one_ansT _ _ _ _ rfl rfl rfl)
            have BF : Blk wF w.heap.size 46 (ansA zAns (.slice none 0 0) (.slice none 0 0) (.slice none 0 0)) := by simpa using BF
            refine pl_store (by rfl) rfl (run_op_store rfl ?_ ?_ hrF) ?_
            · rfl
            · rfl
            (first | (refine pl_off (a' := ?_) rfl (by rfl) ?_ ?_; rotate_left 1; (· simp only [Act.put, zzA, zz0, zzS]; rfl)) | (refine pl_y (v := ?_) (a' := ?_) rfl (by rfl) ?_ ?_ ?_; rotate_left 2; (· go_simp; with_reducible rfl); (· simp only [Act.put, zzA, zz0, zzS]; rfl)))
            refine wpList_nil ?_
            go_wp2_with fail
            refine bodyPost_ret (v := .tuple #[.agg (ansA zAns (.slice none 0 0) (.slice none 0 0) (.slice none 0 0)), .int .i64 ev]) (results_row_tmp (fn := Tryz.f30) rfl _ wF w.heap.size _ _ _ _ rfl BF Tryz.underlying46 rfl (by kernel_rfl) rfl) rfl ?_
            rw [← HP.out]
            exact rgetA_zero (by unfold getA; rw [HS.out]; simp only [HE.out]; simp [he]) (Exc.ext (hE37.trans hE389) hXF (Nat.le_refl _))
end Go.Proofs.YtgfhbachgniipaaGreatDoor
