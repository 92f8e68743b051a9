/- Grants and tokens laid behind bytes, by the document's answer. (and what follows) -/
import Derived.Test.YtgfhbachgniipaaGreatDoorMz
import Derived.Test.YtgfhbachgniipaaGreatDoorM7
import Derived.Test.YtgfhbachgniipaaGreatDoorM6
set_option linter.unusedVariables false
set_option linter.unusedSimpArgs false
namespace Go.Proofs.YtgfhbachgniipaaGreatDoor
open Go.RowKit
section
variable {N : Nat} {w : World} {v : Value} {L : List UInt8} (h : Buf N w v L) (hN : N ≤ 1000000000) (B : Nat) (hB : B ≤ w.heap.size)
include h hN hB
theorem rintL (x : Int) : Calls Tryz.prog 120 #[v, .int .i64 x] w fun e w' => ∃ u, e = .returned u ∧ OwnN B (N + 8) w' u (L ++ num8 x) ∧ Ext w w' := by
  obtain ⟨A, c, rfl, h1, h2, h3⟩ := h
  refine (refInt_any w A c L h2 h1 (by omega) x).mono ?_
  rintro e w' ⟨u, rfl, hu, hE⟩
  exact ⟨u, rfl, OwnN.mk' hu (by rw [List.length_append, num8_len]) (by rw [List.length_append, num8_len]; omega) hB hE, hE⟩
theorem rtextL (s : ByteArray) (hs : s.size ≤ 1048576) : Calls Tryz.prog 52 #[v, .string s] w fun e w' => ∃ u, e = .returned u ∧ OwnN B (N + 1048584) w' u (L ++ txtB s) ∧ Ext w w' := by
  obtain ⟨A, c, rfl, h1, h2, h3⟩ := h
  refine (refText_any w A c L h2 h1 (by omega) s (by omega)).mono ?_
  rintro e w' ⟨u, rfl, hu, hE⟩
  have e1 : s.data.toList.length = s.size := by rw [Array.length_toList]; rfl
  rw [List.append_assoc] at hu
  exact ⟨u, rfl, OwnN.mk' (L := L ++ txtB s) hu (by rw [List.length_append, txtB_len]; omega) (by rw [List.length_append, txtB_len]; omega) hB hE, hE⟩
theorem rblobL (A' : Option Addr) (c' : Nat) (p : List UInt8) (hS : Rd.u8.Sl w A' p.length p) (hc : p.length ≤ c') (hp : p.length ≤ 1048576) :
    Calls Tryz.prog 53 #[v, .slice A' p.length c'] w fun e w' => ∃ u, e = .returned u ∧ OwnN B (N + 1048584) w' u (L ++ blobB p) ∧ Ext w w' := by
  obtain ⟨A, c, rfl, h1, h2, h3⟩ := h
  refine (refBlob_any w A c L h2 h1 (by omega) A' c' p hS hc (by omega)).mono ?_
  rintro e w' ⟨u, rfl, hu, hE⟩
  rw [List.append_assoc] at hu
  exact ⟨u, rfl, OwnN.mk' (L := L ++ blobB p) hu (by unfold blobB; rw [List.length_append, List.length_append, num8_len]; omega) (by unfold blobB; rw [List.length_append, List.length_append, num8_len]; omega) hB hE, hE⟩
end
set_option maxHeartbeats 1000000 in
set_option maxRecDepth 100000 in
theorem rsumL {N : Nat} {w : World} {v : Value} {L : List UInt8} (h : Buf N w v L) (hN : N ≤ 1000000000) (B : Nat) (hB : B ≤ w.heap.size) (m : List UInt8) (hm : m.length = 32) :
    Calls Tryz.prog 78 #[v, .agg (macA m)] w fun e w' => ∃ u, e = .returned u ∧ OwnN B (N + 32) w' u (L ++ m) ∧ Ext w w' := by
  obtain ⟨A, c, rfl, h1, h2, h3⟩ := h
  obtain ⟨W, hW, hE, bx⟩ := box1 w (macA m) 24
  have hcp := copyBytes_any W A c L (h2.ext hE) h1 (by omega)
  have bz := fun (i : Nat) (h : i < 32) => bx i _ (macA_at m i h)
  clear bx
  generalize macA m = M at *
  obtain ⟨n, hln⟩ : ∃ n, L.length = n := ⟨_, rfl⟩
  rw [hln] at hcp h1 h3 ⊢
  have HL := Lib.hid hln
  clear h2 hln
  go_enter Tryz.func78, Tryz.ntmps78
  go_upto_region 1 with fail
  rw [← hW]
  clear hW
  go_wp2_with (go_at_call 35; (with_reducible refine hcp.mono ?_); rintro e w1 ⟨v1, rfl, hown1, hE1⟩)
  clear hcp
  go_loopw [5, 6] (fun s i wr => ∃ k : Nat, k ≤ 32 ∧ i = .int .i64 k ∧ wr.ownsRow W.heap.size 5 1 s (n + k) ((L ++ m.take k).flatMap encB) ∧ Ext W wr) (fun _ i _ => 32 - (intOf i).toNat)
  case atStart => exact ⟨0, by omega, rfl, by simpa using hown1, hE1⟩
  case round =>
    clear hown1 hE1
    obtain ⟨k, hkn, rfl, hown, hwr⟩ := hrel
    by_cases hlt : k < 32
    · have x0 := hwr.cellk (bz k hlt)
      have htk : (L ++ m.take (k + 1)).flatMap encB = (L ++ m.take k).flatMap encB ++ [mb m k] := by
        rw [List.take_succ_eq_append_getElem (by omega), ← List.append_assoc, List.flatMap_append (xs := L ++ _)]
        unfold mb
        rw [List.getD_eq_getElem?_getD, List.getElem?_eq_getElem (by omega)]
        rfl
      generalize hx : mb m k = x at *
      have hx1 : x.oneCell' = true := by rw [← hx]; rfl
      have hxc : x.cells = #[x] := by rw [← hx]; rfl
      obtain ⟨xv, rfl⟩ : ∃ y : Int, x = .int .u8 y := ⟨_, hx.symm⟩
      clear hx
      go_wp2_with (at_builtin; refine wpList_append_cells (news := [.int .u8 xv]) rfl elt_bytes (.tmp 13) (.tmp 17) rfl (hown.alloc _) rfl rfl ?c0 ?c1 ?c2 ?c3 ?c4 ?_)
      case c0 => exact ⟨rfl, (fun h => by cases h), fun ad h j u hu => (by cases h; exact new_cells wr _ #[.int .u8 xv] j u hu)⟩
      case c1 => intro u hu; simp at hu; subst hu; rfl
      case c2 => unfold maxLen; omega
      case c3 => omega
      case c4 => have := hwr.le; simp; omega
      intro v' w3 hown' hgrow
      have hE3 := grown_ext (hwr.alloc _) (hown.alloc _) hgrow
      have hown2 : w3.ownsRow W.heap.size 5 1 v' (n + (k + 1)) ((L ++ m.take (k + 1)).flatMap encB) := by
        rw [htk, ← Nat.add_assoc]; simpa [List.flatMap_append] using hown'
      clear hown hgrow htk hown' x0 hx1 hxc
      go_wp2_with fail
      go_roundw
      case rel => exact ⟨k + 1, by omega, by go_num, hown2, hE3⟩
      case measure => simp [intOf]; omega
    · obtain rfl : k = 32 := by omega
      rw [List.take_of_length_le (by omega)] at hown
      clear bz
      go_wp2_with fail
      go_ret
      exact ⟨_, rfl, OwnN.mk' (w := W) hown (by rw [List.length_append, hm, HL.out]) (by rw [List.length_append, hm, HL.out]; omega) (Nat.le_trans hB hE.le) hwr, hE.trans hwr⟩
set_option maxHeartbeats 9000000 in
set_option maxRecDepth 100000 in
theorem rgrantL {N : Nat} {w : World} {v : Value} {L : List UInt8} (h : Buf N w v L) (B : Nat) (hB : B ≤ w.heap.size) (hN : N ≤ 800000000) (g : Grant) (hg : g.p.size ≤ 1048576) :
    Calls Tryz.prog 121 #[v, .agg (grA g)] w fun e w' => ∃ u, e = .returned u ∧ OwnN B (N + 1048608) w' u (L ++ gB g) ∧ Ext w w' := by
  obtain ⟨W, hW, hE, bx⟩ := box1 w (grA g) 29
  have x0 : W.cell? ⟨w.heap.size, 0, none⟩ = some (.int .i64 g.r) := bx 0 _ rfl
  have xr0 := fun (w' : World) (h : Ext W w') => h.cellk x0
  clear x0
  have x1 : W.cell? ⟨w.heap.size, 1, none⟩ = some (.string g.p) := bx 1 _ rfl
  have xr1 := fun (w' : World) (h : Ext W w') => h.cellk x1
  clear x1
  have x2 : W.cell? ⟨w.heap.size, 2, none⟩ = some (.bool g.x) := bx 2 _ rfl
  have xr2 := fun (w' : World) (h : Ext W w') => h.cellk x2
  clear x2
  have x3 : W.cell? ⟨w.heap.size, 3, none⟩ = some (.int .i64 g.u) := bx 3 _ rfl
  have xr3 := fun (w' : World) (h : Ext W w') => h.cellk x3
  clear x3
  have hb := h.ext hE
  have hB := Nat.le_trans hB hE.le
  have hY : Ext W W := Ext.refl W
  obtain ⟨P, hP⟩ : ∃ P : Ending → World → Prop, (fun e w' => ∃ u, e = .returned u ∧ OwnN B (N + 1048608) w' u (L ++ gB g) ∧ Ext w w') = P := ⟨_, rfl⟩
  rw [hP]
  have HP := Lib.hid hP
  generalize grA g = G at *
  clear bx h hP
  go_enter Tryz.func121, Tryz.ntmps121
  go_upto_region 1 with fail
  rw [← hW]
  clear hW
  refine wp_region_noPanic ?_
  refine tr_start (.y 0 (.y 1 (.y 2 (.y 4 (.y 5 (.e 3 (.e 6 (.y 7 .nil)))))))) (fun w' => Ext W w') (by kernel_rfl) (by as_aux_lemma => kernel_rfl) (fun _ _ _ _ _ h => h) (by (repeat (first | assumption | exact Ext.refl _ | refine Ext.drew ?_ | refine Ext.alloc ?_ _ | refine Ext.drewN ?_ _ | refine Ext.trans ?_ (by assumption)))) ?_
  have e0 : Ext W W.drew := (Ext.refl _).drew
  generalize W.drew = q0 at e0 ⊢
  have hY0 := hY.trans e0
  (first | (refine tr_off (a' := ?_) rfl rfl (by rfl) ?_ ?_; rotate_left 1; (· simp only [Act.put, zzA, zz0, zzS]; rfl)) | (refine tr_y (v := ?_) (a' := ?_) rfl rfl (by rfl) (fun w' hw' => ?_) ?_ ?_; rotate_left 2; (· go_simp; with_reducible rfl); (· simp only [Act.put, zzA, zz0, zzS]; rfl)))
  (first | (refine tr_off (a' := ?_) rfl rfl (by rfl) ?_ ?_; rotate_left 1; (· simp only [Act.put, zzA, zz0, zzS]; rfl)) | (refine tr_y (v := ?_) (a' := ?_) rfl rfl (by rfl) (fun w' hw' => ?_) ?_ ?_; rotate_left 2; (· go_simp; with_reducible rfl); (· simp only [Act.put, zzA, zz0, zzS]; rfl)))
  (first | (refine tr_off (a' := ?_) rfl rfl (by rfl) ?_ ?_; rotate_left 1; (· simp only [Act.put, zzA, zz0, zzS]; rfl)) | (refine tr_y (v := ?_) (a' := ?_) rfl rfl (by rfl) (fun w' hw' => ?_) ?_ ?_; rotate_left 2; (· go_simp; with_reducible rfl); (· simp only [Act.put, zzA, zz0, zzS]; rfl)))
  (first | (refine tr_off (a' := ?_) rfl rfl (by rfl) ?_ ?_; rotate_left 1; (· simp only [Act.put, zzA, zz0, zzS]; rfl)) | (refine tr_y (v := ?_) (a' := ?_) rfl rfl (by rfl) (fun w' hw' => ?_) ?_ ?_; rotate_left 2; (· go_simp; with_reducible rfl); (· simp only [Act.put, zzA, zz0, zzS]; rfl)))
  (first | (refine tr_off (a' := ?_) rfl rfl (by rfl) ?_ ?_; rotate_left 1; (· simp only [Act.put, zzA, zz0, zzS]; rfl)) | (refine tr_y (v := ?_) (a' := ?_) rfl rfl (by rfl) (fun w' hw' => ?_) ?_ ?_; rotate_left 2; (· go_simp; with_reducible rfl); (· simp only [Act.put, zzA, zz0, zzS]; rfl)))
  refine tr_call (args := ?_) rfl Tryz.func120 (by kernel_rfl) rfl (by rfl) rfl rfl ?_ ?_
  rotate_left 1
  · go_simp; rfl
  (with_reducible refine (rintL (hb.ext hY0) (by omega) B (Nat.le_trans hB (Ext.le hY0)) g.r).mono ?_)
  rintro e q1 ⟨u9, rfl, hO9, e1⟩
  have hY1 := hY0.trans e1
  refine ⟨_, _, rfl, hY1, (by simp only [Act.put, zzA, zz0, zzS]; rfl), ?_⟩
  refine tr_call (args := ?_) rfl Tryz.func52 (by kernel_rfl) rfl (by rfl) rfl rfl ?_ ?_
  rotate_left 1
  · go_simp; rfl
  (with_reducible refine (rtextL hO9.buf (by omega) B (Nat.le_trans hB (Ext.le hY1)) g.p hg).mono ?_)
  rintro e q2 ⟨u12, rfl, hO12, e2⟩
  have hY2 := hY1.trans e2
  refine ⟨_, _, rfl, hY2, (by simp only [Act.put, zzA, zz0, zzS]; rfl), ?_⟩
  (first | (refine tr_off (a' := ?_) rfl rfl (by rfl) ?_ ?_; rotate_left 1; (· simp only [Act.put, zzA, zz0, zzS]; rfl)) | (refine tr_y (v := ?_) (a' := ?_) rfl rfl (by rfl) (fun w' hw' => ?_) ?_ ?_; rotate_left 2; (· go_simp; with_reducible rfl); (· simp only [Act.put, zzA, zz0, zzS]; rfl)))
  refine tr_end ?_
  refine NoPanic.normal ?_
  have z2 := xr2 _ hY2
  have hfin : ∀ (x : Int) w9, x = b2i g.x → Ext q2 w9 → Calls Tryz.prog 120 #[u12, .int .i64 x] w9 fun e w' => ∃ u, e = .returned u ∧ OwnN B (N + 8 + 1048584 + 8) w' u (L ++ num8 g.r ++ txtB g.p ++ num8 (b2i g.x)) ∧ Ext w9 w' := fun x w9 hx e => by subst hx; exact rintL (hO12.ext e).buf (by omega) B (Nat.le_trans hB (Nat.le_trans hY2.le e.le)) _
  cases hgx : g.x
  · rw [hgx] at z2
    have hf := fun w9 e => hfin 0 w9 (by rw [hgx]; rfl) e
    clear hfin
    go_upto_region 5 with fail
    refine wp_region_noPanic ?_
    refine tr_start (.y 0 (.y 1 (.y 3 (.y 4 (.e 2 (.e 5 (.y 6 .nil))))))) (fun w' => Ext W w') (by kernel_rfl) (by as_aux_lemma => kernel_rfl) (fun _ _ _ _ _ h => h) (by (repeat (first | assumption | exact Ext.refl _ | refine Ext.drew ?_ | refine Ext.alloc ?_ _ | refine Ext.drewN ?_ _ | refine Ext.trans ?_ (by assumption)))) ?_
    have ez0 : Ext q2 q2.drew := (Ext.refl _).drew
    generalize q2.drew = qz0 at ez0 ⊢
    have hYz0 := hY2.trans ez0
    (first | (refine tr_off (a' := ?_) rfl rfl (by rfl) ?_ ?_; rotate_left 1; (· simp only [Act.put, zzA, zz0, zzS]; rfl)) | (refine tr_y (v := ?_) (a' := ?_) rfl rfl (by rfl) (fun w' hw' => ?_) ?_ ?_; rotate_left 2; (· go_simp; with_reducible rfl); (· simp only [Act.put, zzA, zz0, zzS]; rfl)))
    (first | (refine tr_off (a' := ?_) rfl rfl (by rfl) ?_ ?_; rotate_left 1; (· simp only [Act.put, zzA, zz0, zzS]; rfl)) | (refine tr_y (v := ?_) (a' := ?_) rfl rfl (by rfl) (fun w' hw' => ?_) ?_ ?_; rotate_left 2; (· go_simp; with_reducible rfl); (· simp only [Act.put, zzA, zz0, zzS]; rfl)))
    (first | (refine tr_off (a' := ?_) rfl rfl (by rfl) ?_ ?_; rotate_left 1; (· simp only [Act.put, zzA, zz0, zzS]; rfl)) | (refine tr_y (v := ?_) (a' := ?_) rfl rfl (by rfl) (fun w' hw' => ?_) ?_ ?_; rotate_left 2; (· go_simp; with_reducible rfl); (· simp only [Act.put, zzA, zz0, zzS]; rfl)))
    (first | (refine tr_off (a' := ?_) rfl rfl (by rfl) ?_ ?_; rotate_left 1; (· simp only [Act.put, zzA, zz0, zzS]; rfl)) | (refine tr_y (v := ?_) (a' := ?_) rfl rfl (by rfl) (fun w' hw' => ?_) ?_ ?_; rotate_left 2; (· go_simp; with_reducible rfl); (· simp only [Act.put, zzA, zz0, zzS]; rfl)))
    refine tr_call (args := ?_) rfl Tryz.func120 (by kernel_rfl) rfl (by rfl) rfl rfl ?_ ?_
    rotate_left 1
    · go_simp; rfl
    (with_reducible refine (hf _ ez0).mono ?_)
    rintro e qz1 ⟨u17, rfl, hO17, ez1⟩
    have hYz1 := hYz0.trans ez1
    refine ⟨_, _, rfl, hYz1, (by simp only [Act.put, zzA, zz0, zzS]; rfl), ?_⟩
    refine tr_call (args := ?_) rfl Tryz.func120 (by kernel_rfl) rfl (by rfl) rfl rfl ?_ ?_
    rotate_left 1
    · go_simp; rfl
    (with_reducible refine (rintL hO17.buf (by omega) B (Nat.le_trans hB (Ext.le hYz1)) g.u).mono ?_)
    rintro e qz2 ⟨u20, rfl, hO20, ez2⟩
    have hYz2 := hYz1.trans ez2
    refine ⟨_, _, rfl, hYz2, (by simp only [Act.put, zzA, zz0, zzS]; rfl), ?_⟩
    (first | (refine tr_off (a' := ?_) rfl rfl (by rfl) ?_ ?_; rotate_left 1; (· simp only [Act.put, zzA, zz0, zzS]; rfl)) | (refine tr_y (v := ?_) (a' := ?_) rfl rfl (by rfl) (fun w' hw' => ?_) ?_ ?_; rotate_left 2; (· go_simp; with_reducible rfl); (· simp only [Act.put, zzA, zz0, zzS]; rfl)))
    refine tr_end ?_
    refine NoPanic.normal ?_
    go_wp2_with fail
    rw [← HP.out]
    exact ⟨u20, rfl, (hO20.re (by simp [gB])).wide (by omega), hE.trans hYz2⟩
  · rw [hgx] at z2
    have hf := fun w9 e => hfin 1 w9 (by rw [hgx]; rfl) e
    clear hfin
    go_upto_region 5 with fail
    refine wp_region_noPanic ?_
    refine tr_start (.y 0 (.y 1 (.y 3 (.y 4 (.e 2 (.e 5 (.y 6 .nil))))))) (fun w' => Ext W w') (by kernel_rfl) (by as_aux_lemma => kernel_rfl) (fun _ _ _ _ _ h => h) (by (repeat (first | assumption | exact Ext.refl _ | refine Ext.drew ?_ | refine Ext.alloc ?_ _ | refine Ext.drewN ?_ _ | refine Ext.trans ?_ (by assumption)))) ?_
    have ez0 : Ext q2 q2.drew := (Ext.refl _).drew
    generalize q2.drew = qz0 at ez0 ⊢
    have hYz0 := hY2.trans ez0
    (first | (refine tr_off (a' := ?_) rfl rfl (by rfl) ?_ ?_; rotate_left 1; (· simp only [Act.put, zzA, zz0, zzS]; rfl)) | (refine tr_y (v := ?_) (a' := ?_) rfl rfl (by rfl) (fun w' hw' => ?_) ?_ ?_; rotate_left 2; (· go_simp; with_reducible rfl); (· simp only [Act.put, zzA, zz0, zzS]; rfl)))
    (first | (refine tr_off (a' := ?_) rfl rfl (by rfl) ?_ ?_; rotate_left 1; (· simp only [Act.put, zzA, zz0, zzS]; rfl)) | (refine tr_y (v := ?_) (a' := ?_) rfl rfl (by rfl) (fun w' hw' => ?_) ?_ ?_; rotate_left 2; (· go_simp; with_reducible rfl); (· simp only [Act.put, zzA, zz0, zzS]; rfl)))
    (first | (refine tr_off (a' := ?_) rfl rfl (by rfl) ?_ ?_; rotate_left 1; (· simp only [Act.put, zzA, zz0, zzS]; rfl)) | (refine tr_y (v := ?_) (a' := ?_) rfl rfl (by rfl) (fun w' hw' => ?_) ?_ ?_; rotate_left 2; (· go_simp; with_reducible rfl); (· simp only [Act.put, zzA, zz0, zzS]; rfl)))
    (first | (refine tr_off (a' := ?_) rfl rfl (by rfl) ?_ ?_; rotate_left 1; (· simp only [Act.put, zzA, zz0, zzS]; rfl)) | (refine tr_y (v := ?_) (a' := ?_) rfl rfl (by rfl) (fun w' hw' => ?_) ?_ ?_; rotate_left 2; (· go_simp; with_reducible rfl); (· simp only [Act.put, zzA, zz0, zzS]; rfl)))
    refine tr_call (args := ?_) rfl Tryz.func120 (by kernel_rfl) rfl (by rfl) rfl rfl ?_ ?_
    rotate_left 1
    · go_simp; rfl
    (with_reducible refine (hf _ ez0).mono ?_)
    rintro e qz1 ⟨u17, rfl, hO17, ez1⟩
    have hYz1 := hYz0.trans ez1
    refine ⟨_, _, rfl, hYz1, (by simp only [Act.put, zzA, zz0, zzS]; rfl), ?_⟩
    refine tr_call (args := ?_) rfl Tryz.func120 (by kernel_rfl) rfl (by rfl) rfl rfl ?_ ?_
    rotate_left 1
    · go_simp; rfl
    (with_reducible refine (rintL hO17.buf (by omega) B (Nat.le_trans hB (Ext.le hYz1)) g.u).mono ?_)
    rintro e qz2 ⟨u20, rfl, hO20, ez2⟩
    have hYz2 := hYz1.trans ez2
    refine ⟨_, _, rfl, hYz2, (by simp only [Act.put, zzA, zz0, zzS]; rfl), ?_⟩
    (first | (refine tr_off (a' := ?_) rfl rfl (by rfl) ?_ ?_; rotate_left 1; (· simp only [Act.put, zzA, zz0, zzS]; rfl)) | (refine tr_y (v := ?_) (a' := ?_) rfl rfl (by rfl) (fun w' hw' => ?_) ?_ ?_; rotate_left 2; (· go_simp; with_reducible rfl); (· simp only [Act.put, zzA, zz0, zzS]; rfl)))
    refine tr_end ?_
    refine NoPanic.normal ?_
    go_wp2_with fail
    rw [← HP.out]
    exact ⟨u20, rfl, (hO20.re (by simp [gB])).wide (by omega), hE.trans hYz2⟩
set_option maxHeartbeats 9000000 in
set_option maxRecDepth 100000 in
theorem rputL {N : Nat} {w : World} {v : Value} {L : List UInt8} (h : Buf N w v L) (B : Nat) (hB : B ≤ w.heap.size) (hN : N ≤ 500000000) (t : Tok) (ht : TokFit t) (a : Value) (hG : GsV w t.gs a) :
    Calls Tryz.prog 50 #[v, .agg (tokA t a)] w fun e w' => ∃ u, e = .returned u ∧ OwnN B (N + 110000000) w' u (L ++ tokB t) ∧ Ext w w' := by
  obtain ⟨A, c, rfl, hc, hS⟩ := hG
  obtain ⟨W, hW, hE, bx⟩ := box1 w (tokA t (.slice A t.gs.length c)) 26
  have B1 : Blk W w.heap.size 26 (tokA t (.slice A t.gs.length c)) := by rw [hW]; exact Blk.new _ _ _
  have x0 : W.cell? ⟨w.heap.size, 0, none⟩ = some (.string t.ten) := bx 0 _ rfl
  have xr0 := fun (w' : World) (h : Ext W w') => h.cellk x0
  clear x0
  have x1 : W.cell? ⟨w.heap.size, 1, none⟩ = some (.int .i64 t.id) := bx 1 _ rfl
  have xr1 := fun (w' : World) (h : Ext W w') => h.cellk x1
  clear x1
  have x2 : W.cell? ⟨w.heap.size, 2, none⟩ = some (.slice A t.gs.length c) := bx 2 _ rfl
  have xr2 := fun (w' : World) (h : Ext W w') => h.cellk x2
  clear x2
  have lm := fun (w' : World) (e : Ext W w') => load_part (B1.ext e) 3 (macA t.mac) [.string t.ten, .int .i64 t.id, .slice A t.gs.length c] [] rfl rfl 24 _ Tryz.underlying24 rfl (by kernel_rfl)
  have hb := h.ext hE
  have hB := Nat.le_trans hB hE.le
  have hY : Ext W W := Ext.refl W
  obtain ⟨P, hP⟩ : ∃ P : Ending → World → Prop, (fun e w' => ∃ u, e = .returned u ∧ OwnN B (N + 110000000) w' u (L ++ tokB t) ∧ Ext w w') = P := ⟨_, rfl⟩
  rw [hP]
  have HP := Lib.hid hP
  obtain ⟨n, hln⟩ : ∃ n, t.gs.length = n := ⟨_, rfl⟩
  have hn := ht.n
  have hsm := fun (N' : Nat) (w' : World) (v' : Value) (L' : List UInt8) (h1 : Buf N' w' v' L') (h2 : N' ≤ 1000000000) (h3 : B ≤ w'.heap.size) => @rsumL N' w' v' L' h1 h2 B h3 t.mac ht.mac
  rw [hln] at hS hc hW xr2 hn ⊢
  have HL := Lib.hid hln
  generalize hMa : macA t.mac = M at lm hsm
  have HM := Lib.hid hMa
  generalize tokA t (.slice A n c) = T at *
  clear bx h hP hMa B1 hln
  go_enter Tryz.func50, Tryz.ntmps50
  go_upto_region 1 with fail
  rw [← hW]
  clear hW
  refine wp_region_noPanic ?_
  refine tr_start (.y 0 (.y 1 (.y 2 (.y 4 (.y 5 (.y 7 (.y 8 (.y 9 (.e 3 (.e 6 (.e 10 (.y 11 .nil)))))))))))) (fun w' => Ext W w') (by kernel_rfl) (by as_aux_lemma => kernel_rfl) (fun _ _ _ _ _ h => h) (by (repeat (first | assumption | exact Ext.refl _ | refine Ext.drew ?_ | refine Ext.alloc ?_ _ | refine Ext.drewN ?_ _ | refine Ext.trans ?_ (by assumption)))) ?_
  have e0 : Ext W W.drew := (Ext.refl _).drew
  generalize W.drew = q0 at e0 ⊢
  have hY0 := hY.trans e0
  (first | (refine tr_off (a' := ?_) rfl rfl (by rfl) ?_ ?_; rotate_left 1; (· simp only [Act.put, zzA, zz0, zzS]; rfl)) | (refine tr_y (v := ?_) (a' := ?_) rfl rfl (by rfl) (fun w' hw' => ?_) ?_ ?_; rotate_left 2; (· go_simp; with_reducible rfl); (· simp only [Act.put, zzA, zz0, zzS]; rfl)))
  (first | (refine tr_off (a' := ?_) rfl rfl (by rfl) ?_ ?_; rotate_left 1; (· simp only [Act.put, zzA, zz0, zzS]; rfl)) | (refine tr_y (v := ?_) (a' := ?_) rfl rfl (by rfl) (fun w' hw' => ?_) ?_ ?_; rotate_left 2; (· go_simp; with_reducible rfl); (· simp only [Act.put, zzA, zz0, zzS]; rfl)))
  (first | (refine tr_off (a' := ?_) rfl rfl (by rfl) ?_ ?_; rotate_left 1; (· simp only [Act.put, zzA, zz0, zzS]; rfl)) | (refine tr_y (v := ?_) (a' := ?_) rfl rfl (by rfl) (fun w' hw' => ?_) ?_ ?_; rotate_left 2; (· go_simp; with_reducible rfl); (· simp only [Act.put, zzA, zz0, zzS]; rfl)))
  (first | (refine tr_off (a' := ?_) rfl rfl (by rfl) ?_ ?_; rotate_left 1; (· simp only [Act.put, zzA, zz0, zzS]; rfl)) | (refine tr_y (v := ?_) (a' := ?_) rfl rfl (by rfl) (fun w' hw' => ?_) ?_ ?_; rotate_left 2; (· go_simp; with_reducible rfl); (· simp only [Act.put, zzA, zz0, zzS]; rfl)))
  (first | (refine tr_off (a' := ?_) rfl rfl (by rfl) ?_ ?_; rotate_left 1; (· simp only [Act.put, zzA, zz0, zzS]; rfl)) | (refine tr_y (v := ?_) (a' := ?_) rfl rfl (by rfl) (fun w' hw' => ?_) ?_ ?_; rotate_left 2; (· go_simp; with_reducible rfl); (· simp only [Act.put, zzA, zz0, zzS]; rfl)))
  (first | (refine tr_off (a' := ?_) rfl rfl (by rfl) ?_ ?_; rotate_left 1; (· simp only [Act.put, zzA, zz0, zzS]; rfl)) | (refine tr_y (v := ?_) (a' := ?_) rfl rfl (by rfl) (fun w' hw' => ?_) ?_ ?_; rotate_left 2; (· go_simp; with_reducible rfl); (· simp only [Act.put, zzA, zz0, zzS]; rfl)))
  (first | (refine tr_off (a' := ?_) rfl rfl (by rfl) ?_ ?_; rotate_left 1; (· simp only [Act.put, zzA, zz0, zzS]; rfl)) | (refine tr_y (v := ?_) (a' := ?_) rfl rfl (by rfl) (fun w' hw' => ?_) ?_ ?_; rotate_left 2; (· go_simp; with_reducible rfl); (· simp only [Act.put, zzA, zz0, zzS]; rfl)))
  (first | (refine tr_off (a' := ?_) rfl rfl (by rfl) ?_ ?_; rotate_left 1; (· simp only [Act.put, zzA, zz0, zzS]; rfl)) | (refine tr_y (v := ?_) (a' := ?_) rfl rfl (by rfl) (fun w' hw' => ?_) ?_ ?_; rotate_left 2; (· go_simp; with_reducible rfl); (· simp only [Act.put, zzA, zz0, zzS]; rfl)))
  refine tr_call (args := ?_) rfl Tryz.func52 (by kernel_rfl) rfl (by rfl) rfl rfl ?_ ?_
  rotate_left 1
  · go_simp; rfl
  (with_reducible refine (rtextL (hb.ext hY0) (by omega) B (Nat.le_trans hB (Ext.le hY0)) t.ten ht.ten).mono ?_)
  rintro e q1 ⟨u9, rfl, hO9, e1⟩
  have hY1 := hY0.trans e1
  refine ⟨_, _, rfl, hY1, (by simp only [Act.put, zzA, zz0, zzS]; rfl), ?_⟩
  refine tr_call (args := ?_) rfl Tryz.func120 (by kernel_rfl) rfl (by rfl) rfl rfl ?_ ?_
  rotate_left 1
  · go_simp; rfl
  (with_reducible refine (rintL hO9.buf (by omega) B (Nat.le_trans hB (Ext.le hY1)) t.id).mono ?_)
  rintro e q2 ⟨u12, rfl, hO12, e2⟩
  have hY2 := hY1.trans e2
  refine ⟨_, _, rfl, hY2, (by simp only [Act.put, zzA, zz0, zzS]; rfl), ?_⟩
  refine tr_call (args := ?_) rfl Tryz.func120 (by kernel_rfl) rfl (by rfl) rfl rfl ?_ ?_
  rotate_left 1
  · go_simp; rfl
  (with_reducible refine (rintL hO12.buf (by omega) B (Nat.le_trans hB (Ext.le hY2)) n).mono ?_)
  rintro e q3 ⟨u16, rfl, hO16, e3⟩
  have hY3 := hY2.trans e3
  refine ⟨_, _, rfl, hY3, (by simp only [Act.put, zzA, zz0, zzS]; rfl), ?_⟩
  (first | (refine tr_off (a' := ?_) rfl rfl (by rfl) ?_ ?_; rotate_left 1; (· simp only [Act.put, zzA, zz0, zzS]; rfl)) | (refine tr_y (v := ?_) (a' := ?_) rfl rfl (by rfl) (fun w' hw' => ?_) ?_ ?_; rotate_left 2; (· go_simp; with_reducible rfl); (· simp only [Act.put, zzA, zz0, zzS]; rfl)))
  refine tr_end ?_
  refine NoPanic.normal ?_
  clear hO9 hO12
  go_wp2_with fail
  go_loopw [0, 5] (fun s i wr => ∃ k : Nat, k ≤ n ∧ i = .int .i64 k ∧ OwnN B (N + 1048600 + 1048608 * k) wr s (L ++ (txtB t.ten ++ (num8 t.id ++ (num8 n ++ (t.gs.take k).flatMap gB)))) ∧ Ext W wr) (fun _ i _ => n - (intOf i).toNat)
  case atStart => exact ⟨0, by omega, rfl, by simpa using hO16, hY3⟩
  case round =>
    clear hO16 hY3
    obtain ⟨k, hkn, rfl, hO, hwr⟩ := hrel
    have y2 := xr2 wr hwr
    by_cases hlt : k < n
    · obtain ⟨b, o, cs, rfl, hK, hcell⟩ := (hS.ext (hE.trans hwr)).get k hlt
      obtain rfl := gr_cells hK
      have hl := HL.out
      have hone := gsB_one t.gs k (by omega)
      have hgf := ht.g _ (List.getElem_mem (l := t.gs) (n := k) (by omega))
      generalize t.gs[k]'(by omega) = x at *
      have x0 : wr.cell? ⟨b, o + k * 4, none⟩ = some (.int .i64 x.r) := hcell 0 _ rfl
      have x1 : wr.cell? ⟨b, o + k * 4 + 1, none⟩ = some (.string x.p) := hcell 1 _ rfl
      have x2 : wr.cell? ⟨b, o + k * 4 + 2, none⟩ = some (.bool x.x) := hcell 2 _ rfl
      have x3 : wr.cell? ⟨b, o + k * 4 + 3, none⟩ = some (.int .i64 x.u) := hcell 3 _ rfl
      have hbl := (rgrantL hO.buf B (Nat.le_trans hB hwr.le) (by omega) x hgf.p).mono (R' := fun e9 w9 => ∃ u, e9 = .returned u ∧ OwnN B (N + 1048600 + 1048608 * (k + 1)) w9 u (L ++ (txtB t.ten ++ (num8 t.id ++ (num8 n ++ (t.gs.take (k + 1)).flatMap gB)))) ∧ Ext wr w9) (by rintro e9 w9 ⟨u, rfl, h1, h2⟩; exact ⟨u, rfl, (h1.re (by rw [hone]; simp)).wide (by omega), h2⟩)
      unfold grA at hbl
      clear hS hK hcell hone hgf hl hO
      go_wp2_with (go_at_call 121; (with_reducible refine hbl.mono ?_); rintro e w9 ⟨v9, rfl, hO9, hE9⟩)
      go_roundw
      case rel => first | exact ⟨k + 1, by omega, by go_num, hO9, hwr.trans hE9⟩ | ((repeat apply Exists.intro); exact ⟨⟨k + 1, by omega, by go_num, hO9, hwr.trans hE9⟩, rfl⟩)
      case measure => simp [intOf]; omega
    · obtain rfl : k = n := by omega
      have hs := hsm _ wr _ _ hO.buf (by omega) (Nat.le_trans hB hwr.le)
      have hl := lm wr hwr
      rw [← HL.out, List.take_length, HL.out] at hs
      clear hS hO hsm
      go_wp2_with (first | (refine wpList_load_by rfl rfl ?_ hl ?_; (· rfl)) | (go_at_call 78; (with_reducible refine hs.mono ?_); rintro e w9 ⟨v9, rfl, hO9, hE9⟩))
      rw [← HP.out]
      exact ⟨v9, rfl, (hO9.re (by simp [tokB, HL.out])).wide (by omega), hE.trans (hwr.trans hE9)⟩
set_option maxHeartbeats 1000000 in
set_option maxRecDepth 100000 in
theorem rintsL {N : Nat} {w : World} {v : Value} {L : List UInt8} (h : Buf N w v L) (B : Nat) (hB : B ≤ w.heap.size) (A : Option Addr) (c : Nat) (xs : List Int) (hS : (Rd.int .i64).Sl w A xs.length xs) (hc : xs.length ≤ c) (h0 : 0 < xs.length) (hn : xs.length ≤ 100) (hN : N ≤ 900000000) :
    Calls Tryz.prog 51 #[v, .slice A xs.length c] w fun e w' => ∃ u, e = .returned u ∧ OwnN B (N + 8 * xs.length) w' u (L ++ numsB xs) ∧ Ext w w' := by
  obtain ⟨n, hln⟩ : ∃ n, xs.length = n := ⟨_, rfl⟩
  rw [hln] at hS hc h0 hn ⊢
  have HL := Lib.hid hln
  clear hln
  go_enter Tryz.func51, Tryz.ntmps51
  go_wp2_with fail
  go_loopw [0, 5] (fun s i wr => ∃ k : Nat, k ≤ n ∧ i = .int .i64 k ∧ Buf (N + 8 * k) wr s (L ++ numsB (xs.take k)) ∧ (0 < k → OwnN B (N + 8 * k) wr s (L ++ numsB (xs.take k))) ∧ Ext w wr) (fun _ i _ => n - (intOf i).toNat)
  case atStart => exact ⟨0, by omega, rfl, by simpa [numsB] using h, (fun h => absurd h (Nat.lt_irrefl 0)), Ext.refl _⟩
  case round =>
    obtain ⟨k, hkn, rfl, hb, ho, hwr⟩ := hrel
    by_cases hlt : k < n
    · obtain ⟨b, o, cs, rfl, hK, hcell⟩ := hS.get k hlt
      have hl := HL.out
      have hone := numsB_one xs k (by omega)
      generalize xs[k]'(by omega) = x at *
      have x0 : wr.cell? ⟨b, o + k, none⟩ = some (.int .i64 x) := hwr.cellk (by have := hcell 0 _ (by rw [show cs = [_] from hK]; rfl); simpa [Rd.int] using this)
      have hi := rintL hb (by omega) B (Nat.le_trans hB hwr.le) x
      rw [List.append_assoc, ← hone] at hi
      have hi := hi.mono (R' := fun e w' => ∃ u, e = .returned u ∧ OwnN B (N + 8 * (k + 1)) w' u (L ++ numsB (xs.take (k + 1))) ∧ Ext wr w') (by rintro e w' ⟨u, rfl, h1, h2⟩; exact ⟨u, rfl, h1.wide (by omega), h2⟩)
      clear hS hK hcell hone ho hl
      go_wp2_with (go_at_call 120; (with_reducible refine hi.mono ?_); rintro e w9 ⟨v9, rfl, hO9, hE9⟩)
      go_roundw
      case rel => first | exact ⟨k + 1, by omega, by go_num, hO9.buf, (fun _ => hO9), hwr.trans hE9⟩ | ((repeat apply Exists.intro); exact ⟨⟨k + 1, by omega, by go_num, hO9.buf, (fun _ => hO9), hwr.trans hE9⟩, rfl⟩)
      case measure => simp [intOf]; omega
    · obtain rfl : k = n := by omega
      have ho := ho h0
      rw [← HL.out, List.take_length, HL.out] at ho
      clear hS hb
      go_wp2_with fail
      go_ret
      exact ⟨_, rfl, ho, hwr⟩
section
variable {N : Nat} {w : World} {v : Value} {L : List UInt8} {g : Nat} (h : Buf N w v L) (B : Nat) (hB : B ≤ w.heap.size) (hN : N ≤ 900000000)
include h hB hN
theorem rints1 (x : Int) (b : Blk w g 3 #[.int .i64 x]) : Calls Tryz.prog 51 #[v, .slice (some ⟨g, 0, none⟩) 1 1] w fun e w' => ∃ u, e = .returned u ∧ OwnN B (N + 8) w' u (L ++ num8 x) ∧ Ext w w' := by
  have := rintsL h B hB _ 1 [x] (ints_sl [x] b) (Nat.le_refl _) (by simp) (by simp) hN
  simpa [numsB] using this
theorem rints2 (x y : Int) (b : Blk w g 3 #[.int .i64 x, .int .i64 y]) : Calls Tryz.prog 51 #[v, .slice (some ⟨g, 0, none⟩) 2 2] w fun e w' => ∃ u, e = .returned u ∧ OwnN B (N + 16) w' u (L ++ (num8 x ++ num8 y)) ∧ Ext w w' := by
  have := rintsL h B hB _ 2 [x, y] (ints_sl [x, y] b) (Nat.le_refl _) (by simp) (by simp) hN
  simpa [numsB] using this
theorem rints3 (x y z : Int) (b : Blk w g 3 #[.int .i64 x, .int .i64 y, .int .i64 z]) : Calls Tryz.prog 51 #[v, .slice (some ⟨g, 0, none⟩) 3 3] w fun e w' => ∃ u, e = .returned u ∧ OwnN B (N + 24) w' u (L ++ (num8 x ++ (num8 y ++ num8 z))) ∧ Ext w w' := by
  have := rintsL h B hB _ 3 [x, y, z] (ints_sl [x, y, z] b) (Nat.le_refl _) (by simp) (by simp) hN
  simpa [numsB] using this
end
end Go.Proofs.YtgfhbachgniipaaGreatDoor

namespace Go.Proofs.YtgfhbachgniipaaGreatDoor
open Go.RowKit
open Go.Shelf
def kindI (k : Nat) : List Int := (kindF k).map Int.ofNat
theorem kindI_eq : ∀ k : Fin 9, kindI k.1 = ([[], [0, 1, 2, 3], [0, 4, 5], [4, 5], [1], [6], [7], [4, 5], [4]] : List (List Int)).getD k.1 [] := by decide +kernel
theorem kindI_has (k : Nat) (f : Nat) : hasF k f = (kindI k).contains (f : Int) := by
  unfold hasF kindI
  induction kindF k with
  | nil => rfl
  | cons x l ih =>
    rw [List.map_cons, List.contains_cons, List.contains_cons, ih]
    congr 1
    rw [Bool.eq_iff_iff, beq_iff_eq, beq_iff_eq]
    exact ⟨fun h => by rw [h]; rfl, fun h => Int.ofNat_inj.1 h⟩
theorem kindI_len : ∀ k : Fin 9, (kindI k.1).length ≤ 4 := by decide +kernel
set_option maxHeartbeats 1000000 in
set_option maxRecDepth 100000 in
theorem has_world (w : World) : ∃ q, (((((((((w.alloc (.cells #[] 3)).alloc (.cells #[.int .i64 0, .int .i64 1, .int .i64 2, .int .i64 3] 3)).alloc (.cells #[.int .i64 0, .int .i64 4, .int .i64 5] 3)).alloc (.cells #[.int .i64 4, .int .i64 5] 3)).alloc (.cells #[.int .i64 1] 3)).alloc (.cells #[.int .i64 6] 3)).alloc (.cells #[.int .i64 7] 3)).alloc (.cells #[.int .i64 4, .int .i64 5] 3)).alloc (.cells #[.int .i64 4] 3)).alloc (.cells #[.slice (some ⟨w.heap.size, 0, none⟩) 0 0, .slice (some ⟨w.heap.size + 1, 0, none⟩) 4 4, .slice (some ⟨w.heap.size + 1 + 1, 0, none⟩) 3 3, .slice (some ⟨w.heap.size + 1 + 1 + 1, 0, none⟩) 2 2, .slice (some ⟨w.heap.size + 1 + 1 + 1 + 1, 0, none⟩) 1 1, .slice (some ⟨w.heap.size + 1 + 1 + 1 + 1 + 1, 0, none⟩) 1 1, .slice (some ⟨w.heap.size + 1 + 1 + 1 + 1 + 1 + 1, 0, none⟩) 1 1, .slice (some ⟨w.heap.size + 1 + 1 + 1 + 1 + 1 + 1 + 1, 0, none⟩) 2 2, .slice (some ⟨w.heap.size + 1 + 1 + 1 + 1 + 1 + 1 + 1 + 1, 0, none⟩) 1 1] 63) = q ∧ Ext w q ∧ ∀ k, k ≤ 8 → ∃ g, q.cell? ⟨w.heap.size + 1 + 1 + 1 + 1 + 1 + 1 + 1 + 1 + 1, k, none⟩ = some (.slice (some ⟨g, 0, none⟩) (kindI k).length (kindI k).length) ∧ (Rd.int .i64).Sl q (some ⟨g, 0, none⟩) (kindI k).length (kindI k) := by
  obtain ⟨q0, h0⟩ : ∃ q, w.alloc (.cells #[] 3) = q := ⟨_, rfl⟩
  have s0 : q0.heap.size = w.heap.size + 1 := by rw [← h0]; simp
  have B0 : Blk q0 (w.heap.size) 3 #[] := by have := Blk.new w 3 #[]; rw [h0] at this; exact this
  have E0 : Ext w q0 := by rw [← h0]; exact (Ext.refl _).alloc _
  obtain ⟨q1, h1⟩ : ∃ q, q0.alloc (.cells #[.int .i64 0, .int .i64 1, .int .i64 2, .int .i64 3] 3) = q := ⟨_, rfl⟩
  have s1 : q1.heap.size = w.heap.size + 1 + 1 := by rw [← h1]; simp [s0]
  have B1 : Blk q1 (w.heap.size + 1) 3 #[.int .i64 0, .int .i64 1, .int .i64 2, .int .i64 3] := by have := Blk.new q0 3 #[.int .i64 0, .int .i64 1, .int .i64 2, .int .i64 3]; rw [h1] at this; rwa [s0] at this
  have E1 : Ext q0 q1 := by rw [← h1]; exact (Ext.refl _).alloc _
  obtain ⟨q2, h2⟩ : ∃ q, q1.alloc (.cells #[.int .i64 0, .int .i64 4, .int .i64 5] 3) = q := ⟨_, rfl⟩
  have s2 : q2.heap.size = w.heap.size + 1 + 1 + 1 := by rw [← h2]; simp [s1]
  have B2 : Blk q2 (w.heap.size + 1 + 1) 3 #[.int .i64 0, .int .i64 4, .int .i64 5] := by have := Blk.new q1 3 #[.int .i64 0, .int .i64 4, .int .i64 5]; rw [h2] at this; rwa [s1] at this
  have E2 : Ext q1 q2 := by rw [← h2]; exact (Ext.refl _).alloc _
  obtain ⟨q3, h3⟩ : ∃ q, q2.alloc (.cells #[.int .i64 4, .int .i64 5] 3) = q := ⟨_, rfl⟩
  have s3 : q3.heap.size = w.heap.size + 1 + 1 + 1 + 1 := by rw [← h3]; simp [s2]
  have B3 : Blk q3 (w.heap.size + 1 + 1 + 1) 3 #[.int .i64 4, .int .i64 5] := by have := Blk.new q2 3 #[.int .i64 4, .int .i64 5]; rw [h3] at this; rwa [s2] at this
  have E3 : Ext q2 q3 := by rw [← h3]; exact (Ext.refl _).alloc _
  obtain ⟨q4, h4⟩ : ∃ q, q3.alloc (.cells #[.int .i64 1] 3) = q := ⟨_, rfl⟩
  have s4 : q4.heap.size = w.heap.size + 1 + 1 + 1 + 1 + 1 := by rw [← h4]; simp [s3]
  have B4 : Blk q4 (w.heap.size + 1 + 1 + 1 + 1) 3 #[.int .i64 1] := by have := Blk.new q3 3 #[.int .i64 1]; rw [h4] at this; rwa [s3] at this
  have E4 : Ext q3 q4 := by rw [← h4]; exact (Ext.refl _).alloc _
  obtain ⟨q5, h5⟩ : ∃ q, q4.alloc (.cells #[.int .i64 6] 3) = q := ⟨_, rfl⟩
  have s5 : q5.heap.size = w.heap.size + 1 + 1 + 1 + 1 + 1 + 1 := by rw [← h5]; simp [s4]
  have B5 : Blk q5 (w.heap.size + 1 + 1 + 1 + 1 + 1) 3 #[.int .i64 6] := by have := Blk.new q4 3 #[.int .i64 6]; rw [h5] at this; rwa [s4] at this
  have E5 : Ext q4 q5 := by rw [← h5]; exact (Ext.refl _).alloc _
  obtain ⟨q6, h6⟩ : ∃ q, q5.alloc (.cells #[.int .i64 7] 3) = q := ⟨_, rfl⟩
  have s6 : q6.heap.size = w.heap.size + 1 + 1 + 1 + 1 + 1 + 1 + 1 := by rw [← h6]; simp [s5]
  have B6 : Blk q6 (w.heap.size + 1 + 1 + 1 + 1 + 1 + 1) 3 #[.int .i64 7] := by have := Blk.new q5 3 #[.int .i64 7]; rw [h6] at this; rwa [s5] at this
  have E6 : Ext q5 q6 := by rw [← h6]; exact (Ext.refl _).alloc _
  obtain ⟨q7, h7⟩ : ∃ q, q6.alloc (.cells #[.int .i64 4, .int .i64 5] 3) = q := ⟨_, rfl⟩
  have s7 : q7.heap.size = w.heap.size + 1 + 1 + 1 + 1 + 1 + 1 + 1 + 1 := by rw [← h7]; simp [s6]
  have B7 : Blk q7 (w.heap.size + 1 + 1 + 1 + 1 + 1 + 1 + 1) 3 #[.int .i64 4, .int .i64 5] := by have := Blk.new q6 3 #[.int .i64 4, .int .i64 5]; rw [h7] at this; rwa [s6] at this
  have E7 : Ext q6 q7 := by rw [← h7]; exact (Ext.refl _).alloc _
  obtain ⟨q8, h8⟩ : ∃ q, q7.alloc (.cells #[.int .i64 4] 3) = q := ⟨_, rfl⟩
  have s8 : q8.heap.size = w.heap.size + 1 + 1 + 1 + 1 + 1 + 1 + 1 + 1 + 1 := by rw [← h8]; simp [s7]
  have B8 : Blk q8 (w.heap.size + 1 + 1 + 1 + 1 + 1 + 1 + 1 + 1) 3 #[.int .i64 4] := by have := Blk.new q7 3 #[.int .i64 4]; rw [h8] at this; rwa [s7] at this
  have E8 : Ext q7 q8 := by rw [← h8]; exact (Ext.refl _).alloc _
  obtain ⟨q9, h9⟩ : ∃ q, q8.alloc (.cells #[.slice (some ⟨w.heap.size, 0, none⟩) 0 0, .slice (some ⟨w.heap.size + 1, 0, none⟩) 4 4, .slice (some ⟨w.heap.size + 1 + 1, 0, none⟩) 3 3, .slice (some ⟨w.heap.size + 1 + 1 + 1, 0, none⟩) 2 2, .slice (some ⟨w.heap.size + 1 + 1 + 1 + 1, 0, none⟩) 1 1, .slice (some ⟨w.heap.size + 1 + 1 + 1 + 1 + 1, 0, none⟩) 1 1, .slice (some ⟨w.heap.size + 1 + 1 + 1 + 1 + 1 + 1, 0, none⟩) 1 1, .slice (some ⟨w.heap.size + 1 + 1 + 1 + 1 + 1 + 1 + 1, 0, none⟩) 2 2, .slice (some ⟨w.heap.size + 1 + 1 + 1 + 1 + 1 + 1 + 1 + 1, 0, none⟩) 1 1] 63) = q := ⟨_, rfl⟩
  have B9 : Blk q9 (w.heap.size + 1 + 1 + 1 + 1 + 1 + 1 + 1 + 1 + 1) 63 #[.slice (some ⟨w.heap.size, 0, none⟩) 0 0, .slice (some ⟨w.heap.size + 1, 0, none⟩) 4 4, .slice (some ⟨w.heap.size + 1 + 1, 0, none⟩) 3 3, .slice (some ⟨w.heap.size + 1 + 1 + 1, 0, none⟩) 2 2, .slice (some ⟨w.heap.size + 1 + 1 + 1 + 1, 0, none⟩) 1 1, .slice (some ⟨w.heap.size + 1 + 1 + 1 + 1 + 1, 0, none⟩) 1 1, .slice (some ⟨w.heap.size + 1 + 1 + 1 + 1 + 1 + 1, 0, none⟩) 1 1, .slice (some ⟨w.heap.size + 1 + 1 + 1 + 1 + 1 + 1 + 1, 0, none⟩) 2 2, .slice (some ⟨w.heap.size + 1 + 1 + 1 + 1 + 1 + 1 + 1 + 1, 0, none⟩) 1 1] := by have := Blk.new q8 63 #[.slice (some ⟨w.heap.size, 0, none⟩) 0 0, .slice (some ⟨w.heap.size + 1, 0, none⟩) 4 4, .slice (some ⟨w.heap.size + 1 + 1, 0, none⟩) 3 3, .slice (some ⟨w.heap.size + 1 + 1 + 1, 0, none⟩) 2 2, .slice (some ⟨w.heap.size + 1 + 1 + 1 + 1, 0, none⟩) 1 1, .slice (some ⟨w.heap.size + 1 + 1 + 1 + 1 + 1, 0, none⟩) 1 1, .slice (some ⟨w.heap.size + 1 + 1 + 1 + 1 + 1 + 1, 0, none⟩) 1 1, .slice (some ⟨w.heap.size + 1 + 1 + 1 + 1 + 1 + 1 + 1, 0, none⟩) 2 2, .slice (some ⟨w.heap.size + 1 + 1 + 1 + 1 + 1 + 1 + 1 + 1, 0, none⟩) 1 1]; rw [h9] at this; rwa [s8] at this
  have E9 : Ext q8 q9 := by rw [← h9]; exact (Ext.refl _).alloc _
  refine ⟨q9, ?_, E0.trans ((((((((E1.trans E2).trans E3).trans E4).trans E5).trans E6).trans E7).trans E8).trans E9), fun k hk => ?_⟩
  · rw [h0, h1, h2, h3, h4, h5, h6, h7, h8, h9]
  · have e := kindI_eq ⟨k, by omega⟩
    simp only at e
    rw [e]
    obtain rfl | rfl | rfl | rfl | rfl | rfl | rfl | rfl | rfl : k = 0 ∨ k = 1 ∨ k = 2 ∨ k = 3 ∨ k = 4 ∨ k = 5 ∨ k = 6 ∨ k = 7 ∨ k = 8 := by omega
    · exact ⟨_, B9.cell 0 rfl, ints_sl [] (B0.ext ((((((((E1.trans E2).trans E3).trans E4).trans E5).trans E6).trans E7).trans E8).trans E9))⟩
    · exact ⟨_, B9.cell 1 rfl, ints_sl [0, 1, 2, 3] (B1.ext (((((((E2.trans E3).trans E4).trans E5).trans E6).trans E7).trans E8).trans E9))⟩
    · exact ⟨_, B9.cell 2 rfl, ints_sl [0, 4, 5] (B2.ext ((((((E3.trans E4).trans E5).trans E6).trans E7).trans E8).trans E9))⟩
    · exact ⟨_, B9.cell 3 rfl, ints_sl [4, 5] (B3.ext (((((E4.trans E5).trans E6).trans E7).trans E8).trans E9))⟩
    · exact ⟨_, B9.cell 4 rfl, ints_sl [1] (B4.ext ((((E5.trans E6).trans E7).trans E8).trans E9))⟩
    · exact ⟨_, B9.cell 5 rfl, ints_sl [6] (B5.ext (((E6.trans E7).trans E8).trans E9))⟩
    · exact ⟨_, B9.cell 6 rfl, ints_sl [7] (B6.ext ((E7.trans E8).trans E9))⟩
    · exact ⟨_, B9.cell 7 rfl, ints_sl [4, 5] (B7.ext (E8.trans E9))⟩
    · exact ⟨_, B9.cell 8 rfl, ints_sl [4] (B8.ext E9)⟩
set_option maxHeartbeats 9000000 in
set_option maxRecDepth 100000 in
theorem rhas_any (w : World) (k f : Nat) (hk : k ≤ 8) (hf : f < 8) : Calls Tryz.prog 63 #[.int .i64 k, .int .i64 f] w fun e w' => e = .returned (.bool (hasF k f)) ∧ Ext w w' := by
  rw [kindI_has]
  obtain ⟨q, hq, hE, hfa⟩ := has_world w
  obtain ⟨g, c0, hS⟩ := hfa k hk
  have hlen := kindI_len ⟨k, by omega⟩
  simp only at hlen
  obtain ⟨v, hv⟩ : ∃ v, (kindI k).contains (f : Int) = v := ⟨_, rfl⟩
  rw [hv]
  generalize kindI k = l at *
  obtain ⟨n, hn⟩ : ∃ n, l.length = n := ⟨_, rfl⟩
  rw [hn] at c0 hS hlen
  have HV := Lib.hid hv
  have HN := Lib.hid hn
  clear hfa hv hn
  go_enter Tryz.func63, Tryz.ntmps63
  go_upto_region 2 with fail
  subst hq
  go_wp2_with fail
  go_loopw [6] (fun i wr => ∃ j : Nat, j ≤ n ∧ i = .int .i64 j ∧ (∀ x ∈ l.take j, x ≠ (f : Int)) ∧ Ext w wr ∧ wr.cell? ⟨w.heap.size + 1 + 1 + 1 + 1 + 1 + 1 + 1 + 1 + 1, k, none⟩ = some (.slice (some ⟨g, 0, none⟩) n n) ∧ (Rd.int .i64).Sl wr (some ⟨g, 0, none⟩) n l) (fun i _ => n - (intOf i).toNat)
  case atStart => exact ⟨0, by omega, rfl, (fun x hx => by simp at hx), hE, c0, hS⟩
  case round =>
    clear hE c0 hS
    obtain ⟨j, hjn, rfl, hall, hE, c0, hS⟩ := hrel
    by_cases hlt : j < n
    · obtain ⟨b, o, cs, e, hK, hcell⟩ := hS.get j hlt
      cases e
      have hl := HN.out
      have ht : l.take (j + 1) = l.take j ++ [l[j]'(by omega)] := List.take_succ_eq_append_getElem (by omega)
      have hmem : l[j]'(by omega) ∈ l := List.getElem_mem _
      generalize l[j]'(by omega) = x at *
      have x0 : wr.cell? ⟨g, 0 + j, none⟩ = some (.int .i64 x) := by have := hcell 0 _ (by rw [show cs = [_] from hK]; rfl); simpa [Rd.int] using this
      rw [Nat.zero_add] at x0
      have HT := Lib.hid ht
      have HA := Lib.hid hall
      by_cases hx : x = (f : Int)
      · have hv2 : v = true := by rw [← HV.out, List.contains_iff_mem, ← hx]; exact hmem
        subst hv2
        subst hx
        clear hS hK hcell ht hl hall hmem
        go_wp2_with fail
        go_ret
        exact ⟨rfl, hE⟩
      · have hx2 : (x == (f : Int)) = false := by simpa using hx
        have HS := Lib.hid hS
        clear hS hK hcell ht hl hall hmem
        go_wp2_with fail
        go_roundw
        case rel =>
          refine ⟨j + 1, by omega, by go_num, fun y hy => ?_, hE, c0, HS.out⟩
          rw [HT.out, List.mem_append, List.mem_singleton] at hy
          rcases hy with hy | rfl
          · exact HA.out y hy
          · exact hx
        case measure => simp [intOf]; omega
    · obtain rfl : j = n := by omega
      have hv2 : v = false := by
        rw [← HV.out, Bool.eq_false_iff]
        intro h
        rw [List.contains_iff_mem] at h
        rw [← HN.out, List.take_length] at hall
        exact hall _ h rfl
      subst hv2
      clear hS hall
      go_wp2_with fail
      go_ret
      exact ⟨rfl, hE⟩
set_option maxHeartbeats 1000000 in
set_option maxRecDepth 100000 in
theorem rnamed_any (s : ByteArray) (must : Bool) (w : World) : Calls Tryz.prog 62 #[.string s, .bool must] w fun e w' => e = .returned (.bool (namedG s must)) ∧ Ext w w' := by
  have hN := fun (w' : World) => refname_any s w'
  unfold namedG
  obtain ⟨v, hv⟩ : ∃ v, nm s.data.toList = v := ⟨_, rfl⟩
  rw [hv] at hN ⊢
  obtain ⟨e0, he⟩ : ∃ b, s.toList.isEmpty = b := ⟨_, rfl⟩
  have he2 : (s.toList == ([] : List UInt8)) = e0 := by rw [← he]; cases s.toList <;> rfl
  rw [he]
  cases must <;> cases e0
  all_goals
    go_enter Tryz.func62, Tryz.ntmps62
    go_wp2_with (go_at_call 127; (with_reducible refine (hN _).mono ?_); rintro e w1 ⟨rfl, rfl⟩)
    go_ret
    exact ⟨ret_bool (by simp), Ext.refl _⟩
set_option maxHeartbeats 1000000 in
set_option maxRecDepth 100000 in
theorem placed_any (must : Bool) (n a b : Int) (w : World) : Calls Tryz.prog 64 #[.bool must, .int .i64 n, .int .i64 a, .int .i64 b] w fun e w' => e = .returned (.bool (!oddG must n a b)) ∧ Ext w w' := by
  unfold oddG
  cases must
  · go_enter Tryz.func64, Tryz.ntmps64
    go_wp2_with fail
    go_ret
    exact ⟨ret_bool (by simp), Ext.refl _⟩
  · by_cases h1 : n < a
    · go_enter Tryz.func64, Tryz.ntmps64
      go_wp2_with fail
      go_ret
      exact ⟨ret_bool (by simp [h1] <;> omega), Ext.refl _⟩
    · by_cases h2 : b < n
      · go_enter Tryz.func64, Tryz.ntmps64
        go_wp2_with fail
        go_ret
        exact ⟨ret_bool (by simp [h1, h2] <;> omega), Ext.refl _⟩
      · go_enter Tryz.func64, Tryz.ntmps64
        go_wp2_with fail
        go_ret
        exact ⟨ret_bool (by simp [h1, h2] <;> omega), Ext.refl _⟩
def linksG (t : Tok) : Int := if 6 < t.gs.length then 3 else if longT t = true then 5 else 0
end Go.Proofs.YtgfhbachgniipaaGreatDoor

namespace Go.Proofs.YtgfhbachgniipaaGreatDoor
open Go.RowKit
open Go.Shelf
set_option maxHeartbeats 9000000 in
set_option maxRecDepth 100000 in
theorem links_any (w : World) (t : Tok) (a : Value) (h : GsV w t.gs a) (hn : t.gs.length ≤ 1000000) :
    Calls Tryz.prog 65 #[.agg (tokA t a)] w fun e w' => e = .returned (.int .i64 (linksG t)) ∧ Ext w w' := by
  obtain ⟨A, c, rfl, hc, hG⟩ := h
  obtain ⟨W, hW, hE, bx⟩ := box1 w (tokA t (.slice A t.gs.length c)) 26
  have x0 : W.cell? ⟨w.heap.size, 0, none⟩ = some (.string t.ten) := bx 0 _ rfl
  have x2 : W.cell? ⟨w.heap.size, 2, none⟩ = some (.slice A t.gs.length c) := bx 2 _ rfl
  have hS := hG.ext hE
  obtain ⟨v, hv⟩ : ∃ v, linksG t = v := ⟨_, rfl⟩
  rw [hv]
  obtain ⟨p, hp⟩ : ∃ n, t.gs.length = n := ⟨_, rfl⟩
  unfold linksG at hv
  rw [hp] at hS hc hn x2 hv hW
  have HP := Lib.hid hp
  have HV := Lib.hid hv
  have e0 : decide ((24 : Int) < (t.ten.size : Int)) = longS t.ten := by unfold longS; apply decide_eq_decide.2; omega
  have e1 : decide (24 < t.ten.size) = longS t.ten := rfl
  obtain ⟨lb, hlb⟩ : ∃ b, longS t.ten = b := ⟨_, rfl⟩
  rw [hlb] at e0 e1
  have HB := Lib.hid hlb
  rw [hp]
  generalize tokA t (.slice A p c) = T at *
  clear bx hp hG hv hlb
  by_cases h6 : 6 < p
  · go_enter Tryz.func65, Tryz.ntmps65
    go_upto_region 1 with fail
    rw [← hW]
    clear hW
    go_wp2_with fail
    go_ret
    exact ⟨ret_int (by rw [← HV.out, if_pos h6]), hE⟩
  go_enter Tryz.func65, Tryz.ntmps65
  go_upto_region 1 with fail
  rw [← hW]
  clear hW
  go_wp2_with fail
  go_loopw [3, 4] (fun s i wr => ∃ k : Nat, k ≤ p ∧ i = .int .i64 k ∧ s = .bool (lb || (t.gs.take k).any longP) ∧ wr = W) (fun _ i _ => p - (intOf i).toNat)
  case atStart => exact ⟨0, by omega, rfl, by simp [e1], by trivial⟩
  case round =>
    obtain ⟨k, hkn, rfl, rfl, rfl⟩ := hrel
    by_cases hlt : k < p
    · obtain ⟨b, o, cs, rfl, hK, hcell⟩ := hS.get k hlt
      obtain rfl := gr_cells hK
      have hl := HP.out
      have ht : t.gs.take (k + 1) = t.gs.take k ++ [t.gs[k]'(by omega)] := List.take_succ_eq_append_getElem (by omega)
      generalize t.gs[k]'(by omega) = x at *
      have y1 : wr.cell? ⟨b, o + k * 4 + 1, none⟩ = some (.string x.p) := hcell 1 _ rfl
      have f0 : decide ((24 : Int) < (x.p.size : Int)) = longP x := by unfold longP longS; apply decide_eq_decide.2; omega
      have f1 : decide (24 < x.p.size) = longP x := rfl
      have htb : (lb || (t.gs.take (k + 1)).any longP) = ((lb || (t.gs.take k).any longP) || longP x) := by rw [ht, List.any_append]; simp [Bool.or_assoc]
      generalize (lb || (t.gs.take k).any longP) = c0 at *
      generalize longP x = c2 at *
      have HT := Lib.hid htb
      clear hS hK hcell ht hl htb
      cases c0
      · go_wp2_with fail
        go_roundw
        case rel => exact ⟨k + 1, by omega, by go_num, by rw [HT.out]; simp, by trivial⟩
        case measure => simp [intOf]; omega
      · go_wp2_with fail
        go_roundw
        case rel => exact ⟨k + 1, by omega, by go_num, by rw [HT.out]; simp, by trivial⟩
        case measure => simp [intOf]; omega
    · obtain rfl : k = p := by omega
      have htk : t.gs.take k = t.gs := List.take_of_length_le (by rw [HP.out]; omega)
      rw [htk]
      clear hS htk
      have hlt2 : (lb || t.gs.any longP) = longT t := by unfold longT; rw [HB.out]; rfl
      rw [hlt2]
      obtain ⟨z, hz⟩ : ∃ z, longT t = z := ⟨_, rfl⟩
      rw [hz]
      have HZ := Lib.hid hz
      clear hlt2 hz
      cases z
      · go_wp2_with fail
        go_ret
        exact ⟨ret_int (by rw [← HV.out, if_neg h6, if_neg (by rw [HZ.out]; decide)]), hE⟩
      · go_wp2_with fail
        go_ret
        exact ⟨ret_int (by rw [← HV.out, if_neg h6, if_pos HZ.out]), hE⟩
set_option maxHeartbeats 9000000 in
set_option maxRecDepth 100000 in
theorem rforeign_any (w : World) (c : Cmd) (a b : Value) (k : BsV w c.bodies b) (kk : Nat) (hkk : c.kind = kk) (hk8 : kk ≤ 8) :
    Calls Tryz.prog 67 #[.agg (cmdA c a b)] w fun e w' => e = .returned (.bool (foreignG c)) ∧ Ext w w' := by
  obtain ⟨A, n, rfl, hc, hS⟩ := k
  obtain ⟨W, hW, hE, bx⟩ := box1 w (cmdA c a (.slice A c.bodies.length n)) 31
  have B1 : Blk W w.heap.size 31 (cmdA c a (.slice A c.bodies.length n)) := by rw [hW]; exact Blk.new _ _ _
  have x0 : W.cell? ⟨w.heap.size, 0, none⟩ = some (.int .i64 c.kind) := bx 0 _ rfl
  have xr0 := fun (w' : World) (h : Ext W w') => h.cellk x0
  clear x0
  have x36 : W.cell? ⟨w.heap.size, 36, none⟩ = some (.string c.st) := bx 36 _ rfl
  have xr36 := fun (w' : World) (h : Ext W w') => h.cellk x36
  clear x36
  have x37 : W.cell? ⟨w.heap.size, 37, none⟩ = some (.string c.su) := bx 37 _ rfl
  have xr37 := fun (w' : World) (h : Ext W w') => h.cellk x37
  clear x37
  have x38 : W.cell? ⟨w.heap.size, 38, none⟩ = some (.int .i64 c.ex) := bx 38 _ rfl
  have xr38 := fun (w' : World) (h : Ext W w') => h.cellk x38
  clear x38
  have x39 : W.cell? ⟨w.heap.size, 39, none⟩ = some (.slice A c.bodies.length n) := bx 39 _ rfl
  have xr39 := fun (w' : World) (h : Ext W w') => h.cellk x39
  clear x39
  have x40 : W.cell? ⟨w.heap.size, 40, none⟩ = some (.int .i64 c.fr) := bx 40 _ rfl
  have xr40 := fun (w' : World) (h : Ext W w') => h.cellk x40
  clear x40
  have x41 : W.cell? ⟨w.heap.size, 41, none⟩ = some (.int .i64 c.ct) := bx 41 _ rfl
  have xr41 := fun (w' : World) (h : Ext W w') => h.cellk x41
  clear x41
  have x46 : W.cell? ⟨w.heap.size, 46, none⟩ = some (.int .i64 c.id) := bx 46 _ rfl
  have xr46 := fun (w' : World) (h : Ext W w') => h.cellk x46
  clear x46
  have lg := fun (w' : World) (e : Ext W w') => load_part (B1.ext e) 42 (grA c.gr) ([.int .i64 c.kind] ++ (tokA c.tok a).toList ++ [.string c.st, .string c.su, .int .i64 c.ex, .slice A c.bodies.length n, .int .i64 c.fr, .int .i64 c.ct]) [.int .i64 c.id] rfl rfl 29 _ Tryz.underlying29 rfl (by kernel_rfl)
  have en := fun (w' : World) => neq_gr w' c.gr
  have hY : Ext W W := Ext.refl W
  have hne : ∀ x : Int, decide (x ≠ 0) = (x != 0) := fun x => by by_cases h : x = 0 <;> simp [h]
  have hgv : ∃ b0 b1 b2 b3 b4 b5 b6 b7 : Bool, giveG c = [b0, b1, b2, b3, b4, b5, b6, b7] ∧ (!c.st.toList.isEmpty) = b0 ∧ (!c.su.toList.isEmpty) = b1 ∧ (c.ex != 0) = b2 ∧ decide (0 < c.bodies.length) = b3 ∧ (c.fr != 0) = b4 ∧ (c.ct != 0) = b5 ∧ (!zeroG c.gr) = b6 ∧ (c.id != 0) = b7 := by
    refine ⟨_, _, _, _, _, _, _, _, ?_, rfl, rfl, rfl, rfl, rfl, rfl, rfl, rfl⟩
    unfold giveG
    rw [hne, hne, hne, hne]
  obtain ⟨b0, b1, b2, b3, b4, b5, b6, b7, hg, h0, h1, h2, h3, h4, h5, h6, h7⟩ := hgv
  have hfo : foreignG c = (List.range 8).any fun i => [b0, b1, b2, b3, b4, b5, b6, b7].getD i false && !hasF kk i := by unfold foreignG; rw [hg, hkk]
  obtain ⟨v, hv⟩ : ∃ v, foreignG c = v := ⟨_, rfl⟩
  rw [hv] at hfo ⊢
  rw [hkk] at xr0
  rw [h6] at en
  generalize grA c.gr = G at *
  generalize cmdA c a (.slice A c.bodies.length n) = C at *
  generalize c.bodies.length = m at *
  have HFO := Lib.hid hfo
  clear bx hg B1 hS hc h6 hfo hv
  go_enter Tryz.func67, Tryz.ntmps67
  go_upto_region 1 with fail
  rw [← hW]
  clear hW
  refine wp_region_noPanic ?_
  refine tr_start (.y 0 (.y 1 (.y 2 (.y 3 (.y 4 (.y 5 (.y 6 (.y 7 (.y 8 (.y 9 (.y 10 (.y 11 (.y 12 (.y 13 (.y 14 (.y 15 (.y 16 (.y 17 (.y 18 (.y 19 (.y 20 (.y 21 (.y 22 (.y 23 (.y 24 (.y 25 (.e 26 (.y 27 .nil)))))))))))))))))))))))))))) (fun w' => Ext W w') (by kernel_rfl) (by as_aux_lemma => kernel_rfl) (fun _ _ _ _ _ h => h) (by (repeat (first | assumption | exact Ext.refl _ | refine Ext.drew ?_ | refine Ext.alloc ?_ _ | refine Ext.drewN ?_ _ | refine Ext.trans ?_ (by assumption)))) ?_
  have e0 : Ext W W.drew := (Ext.refl _).drew
  generalize W.drew = q0 at e0 ⊢
  have hY0 := hY.trans e0
  (first | (refine tr_off (a' := ?_) rfl rfl (by rfl) ?_ ?_; rotate_left 1; (· simp only [Act.put, zzA, zz0, zzS]; rfl)) | (refine tr_y (v := ?_) (a' := ?_) rfl rfl (by rfl) (fun w' hw' => ?_) ?_ ?_; rotate_left 2; (· go_simp; with_reducible rfl); (· simp only [Act.put, zzA, zz0, zzS]; rfl)))
  (first | (refine tr_off (a' := ?_) rfl rfl (by rfl) ?_ ?_; rotate_left 1; (· simp only [Act.put, zzA, zz0, zzS]; rfl)) | (refine tr_y (v := ?_) (a' := ?_) rfl rfl (by rfl) (fun w' hw' => ?_) ?_ ?_; rotate_left 2; (· go_simp; with_reducible rfl); (· simp only [Act.put, zzA, zz0, zzS]; rfl)))
  (first | (refine tr_off (a' := ?_) rfl rfl (by rfl) ?_ ?_; rotate_left 1; (· simp only [Act.put, zzA, zz0, zzS]; rfl)) | (refine tr_y (v := ?_) (a' := ?_) rfl rfl (by rfl) (fun w' hw' => ?_) ?_ ?_; rotate_left 2; (· go_simp; with_reducible rfl); (· simp only [Act.put, zzA, zz0, zzS]; rfl)))
  (first | (refine tr_off (a' := ?_) rfl rfl (by rfl) ?_ ?_; rotate_left 1; (· simp only [Act.put, zzA, zz0, zzS]; rfl)) | (refine tr_y (v := ?_) (a' := ?_) rfl rfl (by rfl) (fun w' hw' => ?_) ?_ ?_; rotate_left 2; (· go_simp; with_reducible rfl); (· simp only [Act.put, zzA, zz0, zzS]; rfl)))
  (first | (refine tr_off (a' := ?_) rfl rfl (by rfl) ?_ ?_; rotate_left 1; (· simp only [Act.put, zzA, zz0, zzS]; rfl)) | (refine tr_y (v := ?_) (a' := ?_) rfl rfl (by rfl) (fun w' hw' => ?_) ?_ ?_; rotate_left 2; (· go_simp; with_reducible rfl); (· simp only [Act.put, zzA, zz0, zzS]; rfl)))
  (first | (refine tr_off (a' := ?_) rfl rfl (by rfl) ?_ ?_; rotate_left 1; (· simp only [Act.put, zzA, zz0, zzS]; rfl)) | (refine tr_y (v := ?_) (a' := ?_) rfl rfl (by rfl) (fun w' hw' => ?_) ?_ ?_; rotate_left 2; (· go_simp; with_reducible rfl); (· simp only [Act.put, zzA, zz0, zzS]; rfl)))
  (first | (refine tr_off (a' := ?_) rfl rfl (by rfl) ?_ ?_; rotate_left 1; (· simp only [Act.put, zzA, zz0, zzS]; rfl)) | (refine tr_y (v := ?_) (a' := ?_) rfl rfl (by rfl) (fun w' hw' => ?_) ?_ ?_; rotate_left 2; (· go_simp; with_reducible rfl); (· simp only [Act.put, zzA, zz0, zzS]; rfl)))
  (first | (refine tr_off (a' := ?_) rfl rfl (by rfl) ?_ ?_; rotate_left 1; (· simp only [Act.put, zzA, zz0, zzS]; rfl)) | (refine tr_y (v := ?_) (a' := ?_) rfl rfl (by rfl) (fun w' hw' => ?_) ?_ ?_; rotate_left 2; (· go_simp; with_reducible rfl); (· simp only [Act.put, zzA, zz0, zzS]; rfl)))
  (first | (refine tr_off (a' := ?_) rfl rfl (by rfl) ?_ ?_; rotate_left 1; (· simp only [Act.put, zzA, zz0, zzS]; rfl)) | (refine tr_y (v := ?_) (a' := ?_) rfl rfl (by rfl) (fun w' hw' => ?_) ?_ ?_; rotate_left 2; (· go_simp; with_reducible rfl); (· simp only [Act.put, zzA, zz0, zzS]; rfl)))
  (first | (refine tr_off (a' := ?_) rfl rfl (by rfl) ?_ ?_; rotate_left 1; (· simp only [Act.put, zzA, zz0, zzS]; rfl)) | (refine tr_y (v := ?_) (a' := ?_) rfl rfl (by rfl) (fun w' hw' => ?_) ?_ ?_; rotate_left 2; (· go_simp; with_reducible rfl); (· simp only [Act.put, zzA, zz0, zzS]; rfl)))
  (first | (refine tr_off (a' := ?_) rfl rfl (by rfl) ?_ ?_; rotate_left 1; (· simp only [Act.put, zzA, zz0, zzS]; rfl)) | (refine tr_y (v := ?_) (a' := ?_) rfl rfl (by rfl) (fun w' hw' => ?_) ?_ ?_; rotate_left 2; (· go_simp; with_reducible rfl); (· simp only [Act.put, zzA, zz0, zzS]; rfl)))
  (first | (refine tr_off (a' := ?_) rfl rfl (by rfl) ?_ ?_; rotate_left 1; (· simp only [Act.put, zzA, zz0, zzS]; rfl)) | (refine tr_y (v := ?_) (a' := ?_) rfl rfl (by rfl) (fun w' hw' => ?_) ?_ ?_; rotate_left 2; (· go_simp; with_reducible rfl); (· simp only [Act.put, zzA, zz0, zzS]; rfl)))
  (first | (refine tr_off (a' := ?_) rfl rfl (by rfl) ?_ ?_; rotate_left 1; (· simp only [Act.put, zzA, zz0, zzS]; rfl)) | (refine tr_y (v := ?_) (a' := ?_) rfl rfl (by rfl) (fun w' hw' => ?_) ?_ ?_; rotate_left 2; (· go_simp; with_reducible rfl); (· simp only [Act.put, zzA, zz0, zzS]; rfl)))
  (first | (refine tr_off (a' := ?_) rfl rfl (by rfl) ?_ ?_; rotate_left 1; (· simp only [Act.put, zzA, zz0, zzS]; rfl)) | (refine tr_y (v := ?_) (a' := ?_) rfl rfl (by rfl) (fun w' hw' => ?_) ?_ ?_; rotate_left 2; (· go_simp; with_reducible rfl); (· simp only [Act.put, zzA, zz0, zzS]; rfl)))
  (first | (refine tr_off (a' := ?_) rfl rfl (by rfl) ?_ ?_; rotate_left 1; (· simp only [Act.put, zzA, zz0, zzS]; rfl)) | (refine tr_y (v := ?_) (a' := ?_) rfl rfl (by rfl) (fun w' hw' => ?_) ?_ ?_; rotate_left 2; (· go_simp; with_reducible rfl); (· simp only [Act.put, zzA, zz0, zzS]; rfl)))
  (first | (refine tr_off (a' := ?_) rfl rfl (by rfl) ?_ ?_; rotate_left 1; (· simp only [Act.put, zzA, zz0, zzS]; rfl)) | (refine tr_y (v := ?_) (a' := ?_) rfl rfl (by rfl) (fun w' hw' => ?_) ?_ ?_; rotate_left 2; (· go_simp; with_reducible rfl); (· simp only [Act.put, zzA, zz0, zzS]; rfl)))
  (first | (refine tr_off (a' := ?_) rfl rfl (by rfl) ?_ ?_; rotate_left 1; (· simp only [Act.put, zzA, zz0, zzS]; rfl)) | (refine tr_y (v := ?_) (a' := ?_) rfl rfl (by rfl) (fun w' hw' => ?_) ?_ ?_; rotate_left 2; (· go_simp; with_reducible rfl); (· simp only [Act.put, zzA, zz0, zzS]; rfl)))
  (first | (refine tr_off (a' := ?_) rfl rfl (by rfl) ?_ ?_; rotate_left 1; (· simp only [Act.put, zzA, zz0, zzS]; rfl)) | (refine tr_y (v := ?_) (a' := ?_) rfl rfl (by rfl) (fun w' hw' => ?_) ?_ ?_; rotate_left 2; (· go_simp; with_reducible rfl); (· simp only [Act.put, zzA, zz0, zzS]; rfl)))
  (first | (refine tr_off (a' := ?_) rfl rfl (by rfl) ?_ ?_; rotate_left 1; (· simp only [Act.put, zzA, zz0, zzS]; rfl)) | (refine tr_y (v := ?_) (a' := ?_) rfl rfl (by rfl) (fun w' hw' => ?_) ?_ ?_; rotate_left 2; (· go_simp; with_reducible rfl); (· simp only [Act.put, zzA, zz0, zzS]; rfl)))
  (first | (refine tr_off (a' := ?_) rfl rfl (by rfl) ?_ ?_; rotate_left 1; (· simp only [Act.put, zzA, zz0, zzS]; rfl)) | (refine tr_y (v := ?_) (a' := ?_) rfl rfl (by rfl) (fun w' hw' => ?_) ?_ ?_; rotate_left 2; (· go_simp; with_reducible rfl); (· simp only [Act.put, zzA, zz0, zzS]; rfl)))
  refine tr_y (v := ?_) (a' := ?_) rfl rfl (by rfl) (fun w' hw' => ?_) ?_ ?_
  rotate_left 2
  · (refine (run_op_load rfl ?_ (lg w' hw')).trans ?_; (· rfl); (· with_reducible rfl))
  · simp only [Act.put, zzA, zz0, zzS]; rfl
  (first | (refine tr_off (a' := ?_) rfl rfl (by rfl) ?_ ?_; rotate_left 1; (· simp only [Act.put, zzA, zz0, zzS]; rfl)) | (refine tr_y (v := ?_) (a' := ?_) rfl rfl (by rfl) (fun w' hw' => ?_) ?_ ?_; rotate_left 2; (· go_simp; with_reducible rfl); (· simp only [Act.put, zzA, zz0, zzS]; rfl)))
  (first | (refine tr_off (a' := ?_) rfl rfl (by rfl) ?_ ?_; rotate_left 1; (· simp only [Act.put, zzA, zz0, zzS]; rfl)) | (refine tr_y (v := ?_) (a' := ?_) rfl rfl (by rfl) (fun w' hw' => ?_) ?_ ?_; rotate_left 2; (· go_simp; with_reducible rfl); (· simp only [Act.put, zzA, zz0, zzS]; rfl)))
  (first | (refine tr_off (a' := ?_) rfl rfl (by rfl) ?_ ?_; rotate_left 1; (· simp only [Act.put, zzA, zz0, zzS]; rfl)) | (refine tr_y (v := ?_) (a' := ?_) rfl rfl (by rfl) (fun w' hw' => ?_) ?_ ?_; rotate_left 2; (· go_simp; with_reducible rfl); (· simp only [Act.put, zzA, zz0, zzS]; rfl)))
  (first | (refine tr_off (a' := ?_) rfl rfl (by rfl) ?_ ?_; rotate_left 1; (· simp only [Act.put, zzA, zz0, zzS]; rfl)) | (refine tr_y (v := ?_) (a' := ?_) rfl rfl (by rfl) (fun w' hw' => ?_) ?_ ?_; rotate_left 2; (· go_simp; with_reducible rfl); (· simp only [Act.put, zzA, zz0, zzS]; rfl)))
  (first | (refine tr_off (a' := ?_) rfl rfl (by rfl) ?_ ?_; rotate_left 1; (· simp only [Act.put, zzA, zz0, zzS]; rfl)) | (refine tr_y (v := ?_) (a' := ?_) rfl rfl (by rfl) (fun w' hw' => ?_) ?_ ?_; rotate_left 2; (· go_simp; with_reducible rfl); (· simp only [Act.put, zzA, zz0, zzS]; rfl)))
  have b31 := Blk.new q0 4 #[.bool b0, .bool b1, .bool b2, .bool b3, .bool b4, .bool b5, .bool b6, .bool b7]
  have e1 : Ext q0 (q0.alloc (.cells #[.bool b0, .bool b1, .bool b2, .bool b3, .bool b4, .bool b5, .bool b6, .bool b7] 4)) := (Ext.refl _).alloc _
  have hY1 := hY0.trans e1
  refine tr_value (v := ?_) (w1 := ?_) (a' := ?_) rfl rfl (by rfl) ?_ ?_ ?_ ?_
  rotate_left 3
  · go_simp; refine ⟨?_, ?_⟩ <;> with_reducible rfl
  · exact hY1
  · simp only [Act.put, zzA, zz0, zzS]; rfl
  generalize q0.alloc (.cells #[.bool b0, .bool b1, .bool b2, .bool b3, .bool b4, .bool b5, .bool b6, .bool b7] 4) = q1 at b31 e1 hY1 ⊢
  generalize q0.heap.size = g31 at b31 ⊢
  (first | (refine tr_off (a' := ?_) rfl rfl (by rfl) ?_ ?_; rotate_left 1; (· simp only [Act.put, zzA, zz0, zzS]; rfl)) | (refine tr_y (v := ?_) (a' := ?_) rfl rfl (by rfl) (fun w' hw' => ?_) ?_ ?_; rotate_left 2; (· go_simp; with_reducible rfl); (· simp only [Act.put, zzA, zz0, zzS]; rfl)))
  refine tr_end ?_
  refine NoPanic.normal ?_
  have hcell : ∀ k, k < 8 → q1.cell? ⟨g31, k, none⟩ = some (.bool ([b0, b1, b2, b3, b4, b5, b6, b7].getD k false)) := fun k hk => b31.cell k (by
    obtain rfl | rfl | rfl | rfl | rfl | rfl | rfl | rfl : k = 0 ∨ k = 1 ∨ k = 2 ∨ k = 3 ∨ k = 4 ∨ k = 5 ∨ k = 6 ∨ k = 7 := by omega
    all_goals rfl)
  clear h0 h1 h2 h3 h4 h5 h7 en lg b31
  generalize [b0, b1, b2, b3, b4, b5, b6, b7] = l at *
  go_wp2_with fail
  go_loopw [4] (fun i wr => ∃ k : Nat, k ≤ 8 ∧ i = .int .i64 k ∧ (∀ j, j < k → (l.getD j false && !hasF kk j) = false) ∧ Ext q1 wr) (fun i _ => 8 - (intOf i).toNat)
  case atStart => exact ⟨0, by omega, rfl, (fun j hj => by omega), Ext.refl _⟩
  case round =>
    obtain ⟨k, hkn, rfl, hall, hwr⟩ := hrel
    have HA := Lib.hid hall
    clear hall
    by_cases hlt : k < 8
    · have x0 := hwr.cellk (hcell k hlt)
      have z0 := xr0 wr (hY1.trans hwr)
      have hh := rhas_any wr kk k hk8 hlt
      obtain ⟨lv, hlv⟩ : ∃ b, l.getD k false = b := ⟨_, rfl⟩
      obtain ⟨fv, hfv⟩ : ∃ b, hasF kk k = b := ⟨_, rfl⟩
      rw [hlv] at x0
      rw [hfv] at hh
      have hstep : (lv && !fv) = false → ∀ j, j < k + 1 → (l.getD j false && !hasF kk j) = false := fun h j hj => by
        by_cases e : j = k
        · subst e
          rw [hlv, hfv]; exact h
        · exact HA.out j (by omega)
      have hhit : (lv && !fv) = true → v = true := fun h => by
        rw [HFO.out, List.any_eq_true]
        exact ⟨k, List.mem_range.2 hlt, by rw [hlv, hfv]; exact h⟩
      have HS := Lib.hid hstep
      have HH := Lib.hid hhit
      clear hstep hhit hlv hfv hcell
      cases lv
      · go_wp2_with fail
        go_roundw
        case rel => exact ⟨k + 1, by omega, by go_num, HS.out rfl, hwr⟩
        case measure => simp [intOf]; omega
      · cases fv
        · obtain rfl := HH.out rfl
          go_wp2_with (go_at_call 63; (with_reducible refine hh.mono ?_); rintro e w9 ⟨rfl, hE9⟩)
          go_ret
          exact ⟨rfl, hE.trans (hY1.trans (hwr.trans hE9))⟩
        · go_wp2_with (go_at_call 63; (with_reducible refine hh.mono ?_); rintro e w9 ⟨rfl, hE9⟩)
          go_roundw
          case rel => exact ⟨k + 1, by omega, by go_num, HS.out rfl, hwr.trans hE9⟩
          case measure => simp [intOf]; omega
    · obtain rfl : k = 8 := by omega
      have hv2 : v = false := by
        rw [HFO.out, List.any_eq_false]
        intro j hj
        rw [HA.out j (List.mem_range.1 hj)]
        decide
      subst hv2
      clear hcell
      go_wp2_with fail
      go_ret
      exact ⟨rfl, hE.trans (hY1.trans hwr)⟩
end Go.Proofs.YtgfhbachgniipaaGreatDoor

namespace Go.Proofs.YtgfhbachgniipaaGreatDoor
open Go.RowKit
open Go.Shelf
theorem rgrCheck_any (g : Grant) (w : World) (hs : g.p.size ≤ 9223372036854775807) : Calls Tryz.prog 66 #[.agg (grA g)] w fun e w' => e = .returned (.int .i64 (checkG g.r g.p g.x g.u)) ∧ Ext w w' := refcheck_any g.r g.p g.x g.u w hs
set_option maxHeartbeats 9000000 in
set_option maxRecDepth 100000 in
theorem rcmdCheck_any (w : World) (c : Cmd) (a b : Value) (hG : GsV w c.tok.gs a) (hD : BsV w c.bodies b) (hl : CmdLen c) :
    Calls Tryz.prog 15 #[.agg (cmdA c a b)] w fun e w' => e = .returned (.int .i64 (cmdG c)) ∧ Ext w w' := by
  have hlk := fun (w' : World) (e : Ext w w') => links_any w' c.tok a (hG.ext e) hl.n
  have hfg := fun (w' : World) (e : Ext w w') => rforeign_any w' c a b (hD.ext e)
  obtain ⟨A, ca, rfl, hca, -⟩ := id hG
  obtain ⟨D, cb, rfl, hcb, hS⟩ := id hD
  obtain ⟨W, hW, hE, bx⟩ := box1 w (cmdA c (.slice A c.tok.gs.length ca) (.slice D c.bodies.length cb)) 31
  have B1 : Blk W w.heap.size 31 (cmdA c (.slice A c.tok.gs.length ca) (.slice D c.bodies.length cb)) := by rw [hW]; exact Blk.new _ _ _
  have x0 : W.cell? ⟨w.heap.size, 0, none⟩ = some (.int .i64 c.kind) := bx 0 _ rfl
  by_cases hK : c.kind < 1 ∨ 8 < c.kind
  · have hv : cmdG c = 2 := by unfold cmdG; rw [if_pos hK]
    rw [hv]
    generalize cmdA c (.slice A c.tok.gs.length ca) (.slice D c.bodies.length cb) = C at *
    clear hv bx hG hD hS hlk hfg B1
    by_cases hK1 : c.kind < 1
    · go_enter Tryz.func15, Tryz.ntmps15
      go_upto_region 1 with fail
      rw [← hW]
      clear hW
      go_wp2_with fail
      go_ret
      exact ⟨rfl, hE⟩
    · have hK2 : 8 < c.kind := hK.resolve_left hK1
      clear hK
      go_enter Tryz.func15, Tryz.ntmps15
      go_upto_region 1 with fail
      rw [← hW]
      clear hW
      go_wp2_with fail
      go_ret
      exact ⟨rfl, hE⟩
  obtain ⟨k, hk⟩ : ∃ k : Nat, c.kind = k := ⟨c.kind.toNat, by omega⟩
  have hk1 : 1 ≤ k := by omega
  have hk8 : k ≤ 8 := by omega
  rw [hk] at x0
  have hcm : cmdG c = cmdG c := rfl
  conv at hcm => rhs; unfold cmdG
  rw [if_neg hK] at hcm
  clear hK
  have hfg := fun (w' : World) (e : Ext w w') => hfg w' e k hk hk8
  have l0 := fun (w' : World) (e : Ext W w') => load_whole (B1.ext e) 31 _ Tryz.underlying31 rfl (by kernel_rfl)
  have l1 := fun (w' : World) (e : Ext W w') => load_part (B1.ext e) 1 (tokA c.tok (.slice A c.tok.gs.length ca)) [.int .i64 c.kind] [.string c.st, .string c.su, .int .i64 c.ex, (.slice D c.bodies.length cb), .int .i64 c.fr, .int .i64 c.ct, .int .i64 c.gr.r, .string c.gr.p, .bool c.gr.x, .int .i64 c.gr.u, .int .i64 c.id] rfl rfl 26 _ Tryz.underlying26 rfl (by kernel_rfl)
  have l8 := fun (w' : World) (e : Ext W w') => load_part (B1.ext e) 42 (grA c.gr) ([.int .i64 c.kind] ++ (tokA c.tok (.slice A c.tok.gs.length ca)).toList ++ [.string c.st, .string c.su, .int .i64 c.ex, .slice D c.bodies.length cb, .int .i64 c.fr, .int .i64 c.ct]) [.int .i64 c.id] rfl rfl 29 _ Tryz.underlying29 rfl (by kernel_rfl)
  have x36 : W.cell? ⟨w.heap.size, 36, none⟩ = some (.string c.st) := bx 36 _ rfl
  have xr36 := fun (w' : World) (h : Ext W w') => h.cellk x36
  clear x36
  have x37 : W.cell? ⟨w.heap.size, 37, none⟩ = some (.string c.su) := bx 37 _ rfl
  have xr37 := fun (w' : World) (h : Ext W w') => h.cellk x37
  clear x37
  have x38 : W.cell? ⟨w.heap.size, 38, none⟩ = some (.int .i64 c.ex) := bx 38 _ rfl
  have xr38 := fun (w' : World) (h : Ext W w') => h.cellk x38
  clear x38
  have x39 : W.cell? ⟨w.heap.size, 39, none⟩ = some (.slice D c.bodies.length cb) := bx 39 _ rfl
  have xr39 := fun (w' : World) (h : Ext W w') => h.cellk x39
  clear x39
  have x40 : W.cell? ⟨w.heap.size, 40, none⟩ = some (.int .i64 c.fr) := bx 40 _ rfl
  have xr40 := fun (w' : World) (h : Ext W w') => h.cellk x40
  clear x40
  have x41 : W.cell? ⟨w.heap.size, 41, none⟩ = some (.int .i64 c.ct) := bx 41 _ rfl
  have xr41 := fun (w' : World) (h : Ext W w') => h.cellk x41
  clear x41
  have x46 : W.cell? ⟨w.heap.size, 46, none⟩ = some (.int .i64 c.id) := bx 46 _ rfl
  have xr46 := fun (w' : World) (h : Ext W w') => h.cellk x46
  clear x46
  have hgc := fun (w' : World) => rgrCheck_any c.gr w' hl.gp
  have hr0 : ∀ w' : World, Calls Tryz.prog 63 #[.int .i64 k, .int .i64 0] w' fun e w'' => e = .returned (.bool (hasF c.kind 0)) ∧ Ext w' w'' := fun w' => by rw [hk]; exact rhas_any w' k 0 hk8 (by decide)
  generalize hasF c.kind 0 = f0 at hr0 hcm
  have hr1 : ∀ w' : World, Calls Tryz.prog 63 #[.int .i64 k, .int .i64 1] w' fun e w'' => e = .returned (.bool (hasF c.kind 1)) ∧ Ext w' w'' := fun w' => by rw [hk]; exact rhas_any w' k 1 hk8 (by decide)
  generalize hasF c.kind 1 = f1 at hr1 hcm
  have hr2 : ∀ w' : World, Calls Tryz.prog 63 #[.int .i64 k, .int .i64 2] w' fun e w'' => e = .returned (.bool (hasF c.kind 2)) ∧ Ext w' w'' := fun w' => by rw [hk]; exact rhas_any w' k 2 hk8 (by decide)
  generalize hasF c.kind 2 = f2 at hr2 hcm
  have hr3 : ∀ w' : World, Calls Tryz.prog 63 #[.int .i64 k, .int .i64 3] w' fun e w'' => e = .returned (.bool (hasF c.kind 3)) ∧ Ext w' w'' := fun w' => by rw [hk]; exact rhas_any w' k 3 hk8 (by decide)
  generalize hasF c.kind 3 = f3 at hr3 hcm
  have hr4 : ∀ w' : World, Calls Tryz.prog 63 #[.int .i64 k, .int .i64 4] w' fun e w'' => e = .returned (.bool (hasF c.kind 4)) ∧ Ext w' w'' := fun w' => by rw [hk]; exact rhas_any w' k 4 hk8 (by decide)
  generalize hasF c.kind 4 = f4 at hr4 hcm
  have hr5 : ∀ w' : World, Calls Tryz.prog 63 #[.int .i64 k, .int .i64 5] w' fun e w'' => e = .returned (.bool (hasF c.kind 5)) ∧ Ext w' w'' := fun w' => by rw [hk]; exact rhas_any w' k 5 hk8 (by decide)
  generalize hasF c.kind 5 = f5 at hr5 hcm
  have hr6 : ∀ w' : World, Calls Tryz.prog 63 #[.int .i64 k, .int .i64 6] w' fun e w'' => e = .returned (.bool (hasF c.kind 6)) ∧ Ext w' w'' := fun w' => by rw [hk]; exact rhas_any w' k 6 hk8 (by decide)
  generalize hasF c.kind 6 = f6 at hr6 hcm
  have hr7 : ∀ w' : World, Calls Tryz.prog 63 #[.int .i64 k, .int .i64 7] w' fun e w'' => e = .returned (.bool (hasF c.kind 7)) ∧ Ext w' w'' := fun w' => by rw [hk]; exact rhas_any w' k 7 hk8 (by decide)
  generalize hasF c.kind 7 = f7 at hr7 hcm
  have nm1 := fun (w' : World) => rnamed_any c.st f0 w'
  have nm2 := fun (w' : World) => rnamed_any c.su f1 w'
  have pl1 := fun (w' : World) => placed_any f2 c.ex (-1) 1000 w'
  have pl2 := fun (w' : World) => placed_any f4 c.fr 1 1099511627776 w'
  have pl3 := fun (w' : World) => placed_any f5 c.ct 0 64 w'
  have pl4 := fun (w' : World) => placed_any f7 c.id 1 1099511627776 w'
  generalize namedG c.st f0 = n1 at nm1 hcm
  generalize namedG c.su f1 = n2 at nm2 hcm
  generalize oddG f2 c.ex (-1) 1000 = o1 at pl1 hcm
  generalize oddG f4 c.fr 1 1099511627776 = o2 at pl2 hcm
  generalize oddG f5 c.ct 0 64 = o3 at pl3 hcm
  generalize oddG f7 c.id 1 1099511627776 = o4 at pl4 hcm
  have hlx : 6 < c.tok.gs.length ∧ linksG c.tok = 3 ∨ ¬ 6 < c.tok.gs.length ∧ (longT c.tok = true ∧ linksG c.tok = 5 ∨ longT c.tok = false ∧ linksG c.tok = 0) := by
    unfold linksG
    by_cases h : 6 < c.tok.gs.length
    · exact .inl ⟨h, if_pos h⟩
    · refine .inr ⟨h, ?_⟩
      rw [if_neg h]
      cases longT c.tok
      · exact .inr ⟨rfl, if_neg (by decide)⟩
      · exact .inl ⟨rfl, if_pos rfl⟩
  generalize linksG c.tok = lk at hlk hlx
  obtain ⟨b1, hb1⟩ : ∃ b, c.bodies.any longB = b := ⟨_, rfl⟩
  rw [hb1] at hcm
  generalize longT c.tok = b2 at hlx hcm
  generalize hcg : checkG c.gr.r c.gr.p c.gr.x c.gr.u = gv at hgc hcm
  generalize foreignG c = fo at hfg hcm
  have HLX := Lib.hid hlx
  have HB1 := Lib.hid hb1
  generalize hp : c.tok.gs.length = p at *
  generalize hm : c.bodies.length = m at *
  have HP := Lib.hid hp
  have HM := Lib.hid hm
  have HC := Lib.hid hcm
  have hY : Ext W W := Ext.refl W
  have hSW := fun (w' : World) (e : Ext W w') => hS.ext (hE.trans e)
  clear hcm hlx hb1 hS hG hD hcg bx hp hm
  generalize cmdA c (.slice A p ca) (.slice D m cb) = C at *
  generalize tokA c.tok (.slice A p ca) = T at *
  clear B1
  go_enter Tryz.func15, Tryz.ntmps15
  go_upto_region 1 with fail
  rw [← hW]
  clear hW
  go_upto_region 4 with fail
  cases n1
  · refine wp_region_noPanic ?_
    refine tr_start (.y 0 (.y 1 (.y 2 (.e 3 (.e 4 (.y 5 (.y 6 (.y 7 (.y 8 (.y 9 (.y 10 (.y 11 (.y 12 (.y 13 .nil)))))))))))))) (fun w' => Ext W w') (by kernel_rfl) (by as_aux_lemma => kernel_rfl) (fun _ _ _ _ _ h => h) (by (repeat (first | assumption | exact Ext.refl _ | refine Ext.drew ?_ | refine Ext.alloc ?_ _ | refine Ext.drewN ?_ _ | refine Ext.trans ?_ (by assumption)))) ?_
    have e0 : Ext W W.drew := (Ext.refl _).drew
    generalize W.drew = q0 at e0 ⊢
    have hY0 := hY.trans e0
    (first | (refine tr_off (a' := ?_) rfl rfl (by rfl) ?_ ?_; rotate_left 1; (· simp only [Act.put, zzA, zz0, zzS]; rfl)) | (refine tr_y (v := ?_) (a' := ?_) rfl rfl (by rfl) (fun w' hw' => ?_) ?_ ?_; rotate_left 2; (· go_simp; with_reducible rfl); (· simp only [Act.put, zzA, zz0, zzS]; rfl)))
    (first | (refine tr_off (a' := ?_) rfl rfl (by rfl) ?_ ?_; rotate_left 1; (· simp only [Act.put, zzA, zz0, zzS]; rfl)) | (refine tr_y (v := ?_) (a' := ?_) rfl rfl (by rfl) (fun w' hw' => ?_) ?_ ?_; rotate_left 2; (· go_simp; with_reducible rfl); (· simp only [Act.put, zzA, zz0, zzS]; rfl)))
    (first | (refine tr_off (a' := ?_) rfl rfl (by rfl) ?_ ?_; rotate_left 1; (· simp only [Act.put, zzA, zz0, zzS]; rfl)) | (refine tr_y (v := ?_) (a' := ?_) rfl rfl (by rfl) (fun w' hw' => ?_) ?_ ?_; rotate_left 2; (· go_simp; with_reducible rfl); (· simp only [Act.put, zzA, zz0, zzS]; rfl)))
    refine tr_call (args := ?_) rfl Tryz.func63 (by kernel_rfl) rfl (by rfl) rfl rfl ?_ ?_
    rotate_left 1
    · go_simp; rfl
    (with_reducible refine (hr0 _).mono ?_)
    rintro e q1 ⟨rfl, e1⟩
    have hY1 := hY0.trans e1
    refine ⟨_, _, rfl, hY1, (by simp only [Act.put, zzA, zz0, zzS]; rfl), ?_⟩
    refine tr_call (args := ?_) rfl Tryz.func62 (by kernel_rfl) rfl (by rfl) rfl rfl ?_ ?_
    rotate_left 1
    · go_simp; rfl
    (with_reducible refine (nm1 _).mono ?_)
    rintro e q2 ⟨rfl, e2⟩
    have hY2 := hY1.trans e2
    refine ⟨_, _, rfl, hY2, (by simp only [Act.put, zzA, zz0, zzS]; rfl), ?_⟩
    (first | (refine tr_off (a' := ?_) rfl rfl (by rfl) ?_ ?_; rotate_left 1; (· simp only [Act.put, zzA, zz0, zzS]; rfl)) | (refine tr_y (v := ?_) (a' := ?_) rfl rfl (by rfl) (fun w' hw' => ?_) ?_ ?_; rotate_left 2; (· go_simp; with_reducible rfl); (· simp only [Act.put, zzA, zz0, zzS]; rfl)))
    (first | (refine tr_off (a' := ?_) rfl rfl (by rfl) ?_ ?_; rotate_left 1; (· simp only [Act.put, zzA, zz0, zzS]; rfl)) | (refine tr_y (v := ?_) (a' := ?_) rfl rfl (by rfl) (fun w' hw' => ?_) ?_ ?_; rotate_left 2; (· go_simp; with_reducible rfl); (· simp only [Act.put, zzA, zz0, zzS]; rfl)))
    (first | (refine tr_off (a' := ?_) rfl rfl (by rfl) ?_ ?_; rotate_left 1; (· simp only [Act.put, zzA, zz0, zzS]; rfl)) | (refine tr_y (v := ?_) (a' := ?_) rfl rfl (by rfl) (fun w' hw' => ?_) ?_ ?_; rotate_left 2; (· go_simp; with_reducible rfl); (· simp only [Act.put, zzA, zz0, zzS]; rfl)))
    (first | (refine tr_off (a' := ?_) rfl rfl (by rfl) ?_ ?_; rotate_left 1; (· simp only [Act.put, zzA, zz0, zzS]; rfl)) | (refine tr_y (v := ?_) (a' := ?_) rfl rfl (by rfl) (fun w' hw' => ?_) ?_ ?_; rotate_left 2; (· go_simp; with_reducible rfl); (· simp only [Act.put, zzA, zz0, zzS]; rfl)))
    (first | (refine tr_off (a' := ?_) rfl rfl (by rfl) ?_ ?_; rotate_left 1; (· simp only [Act.put, zzA, zz0, zzS]; rfl)) | (refine tr_y (v := ?_) (a' := ?_) rfl rfl (by rfl) (fun w' hw' => ?_) ?_ ?_; rotate_left 2; (· go_simp; with_reducible rfl); (· simp only [Act.put, zzA, zz0, zzS]; rfl)))
    (first | (refine tr_off (a' := ?_) rfl rfl (by rfl) ?_ ?_; rotate_left 1; (· simp only [Act.put, zzA, zz0, zzS]; rfl)) | (refine tr_y (v := ?_) (a' := ?_) rfl rfl (by rfl) (fun w' hw' => ?_) ?_ ?_; rotate_left 2; (· go_simp; with_reducible rfl); (· simp only [Act.put, zzA, zz0, zzS]; rfl)))
    (first | (refine tr_off (a' := ?_) rfl rfl (by rfl) ?_ ?_; rotate_left 1; (· simp only [Act.put, zzA, zz0, zzS]; rfl)) | (refine tr_y (v := ?_) (a' := ?_) rfl rfl (by rfl) (fun w' hw' => ?_) ?_ ?_; rotate_left 2; (· go_simp; with_reducible rfl); (· simp only [Act.put, zzA, zz0, zzS]; rfl)))
    (first | (refine tr_off (a' := ?_) rfl rfl (by rfl) ?_ ?_; rotate_left 1; (· simp only [Act.put, zzA, zz0, zzS]; rfl)) | (refine tr_y (v := ?_) (a' := ?_) rfl rfl (by rfl) (fun w' hw' => ?_) ?_ ?_; rotate_left 2; (· go_simp; with_reducible rfl); (· simp only [Act.put, zzA, zz0, zzS]; rfl)))
    (first | (refine tr_off (a' := ?_) rfl rfl (by rfl) ?_ ?_; rotate_left 1; (· simp only [Act.put, zzA, zz0, zzS]; rfl)) | (refine tr_y (v := ?_) (a' := ?_) rfl rfl (by rfl) (fun w' hw' => ?_) ?_ ?_; rotate_left 2; (· go_simp; with_reducible rfl); (· simp only [Act.put, zzA, zz0, zzS]; rfl)))
    refine tr_end ?_
    refine NoPanic.normal ?_
    go_wp2_with fail
    go_ret
    exact ⟨ret_int (by rw [HC.out]; simp [*]), hE.trans hY2⟩
  refine wp_region_noPanic ?_
  refine tr_start (.y 0 (.y 1 (.y 2 (.e 3 (.e 4 (.y 5 (.y 6 (.y 7 (.y 8 (.y 9 (.e 10 (.e 11 (.y 12 (.y 13 .nil)))))))))))))) (fun w' => Ext W w') (by kernel_rfl) (by as_aux_lemma => kernel_rfl) (fun _ _ _ _ _ h => h) (by (repeat (first | assumption | exact Ext.refl _ | refine Ext.drew ?_ | refine Ext.alloc ?_ _ | refine Ext.drewN ?_ _ | refine Ext.trans ?_ (by assumption)))) ?_
  have e0 : Ext W W.drew := (Ext.refl _).drew
  generalize W.drew = q0 at e0 ⊢
  have hY0 := hY.trans e0
  (first | (refine tr_off (a' := ?_) rfl rfl (by rfl) ?_ ?_; rotate_left 1; (· simp only [Act.put, zzA, zz0, zzS]; rfl)) | (refine tr_y (v := ?_) (a' := ?_) rfl rfl (by rfl) (fun w' hw' => ?_) ?_ ?_; rotate_left 2; (· go_simp; with_reducible rfl); (· simp only [Act.put, zzA, zz0, zzS]; rfl)))
  (first | (refine tr_off (a' := ?_) rfl rfl (by rfl) ?_ ?_; rotate_left 1; (· simp only [Act.put, zzA, zz0, zzS]; rfl)) | (refine tr_y (v := ?_) (a' := ?_) rfl rfl (by rfl) (fun w' hw' => ?_) ?_ ?_; rotate_left 2; (· go_simp; with_reducible rfl); (· simp only [Act.put, zzA, zz0, zzS]; rfl)))
  (first | (refine tr_off (a' := ?_) rfl rfl (by rfl) ?_ ?_; rotate_left 1; (· simp only [Act.put, zzA, zz0, zzS]; rfl)) | (refine tr_y (v := ?_) (a' := ?_) rfl rfl (by rfl) (fun w' hw' => ?_) ?_ ?_; rotate_left 2; (· go_simp; with_reducible rfl); (· simp only [Act.put, zzA, zz0, zzS]; rfl)))
  refine tr_call (args := ?_) rfl Tryz.func63 (by kernel_rfl) rfl (by rfl) rfl rfl ?_ ?_
  rotate_left 1
  · go_simp; rfl
  (with_reducible refine (hr0 _).mono ?_)
  rintro e q1 ⟨rfl, e1⟩
  have hY1 := hY0.trans e1
  refine ⟨_, _, rfl, hY1, (by simp only [Act.put, zzA, zz0, zzS]; rfl), ?_⟩
  refine tr_call (args := ?_) rfl Tryz.func62 (by kernel_rfl) rfl (by rfl) rfl rfl ?_ ?_
  rotate_left 1
  · go_simp; rfl
  (with_reducible refine (nm1 _).mono ?_)
  rintro e q2 ⟨rfl, e2⟩
  have hY2 := hY1.trans e2
  refine ⟨_, _, rfl, hY2, (by simp only [Act.put, zzA, zz0, zzS]; rfl), ?_⟩
  (first | (refine tr_off (a' := ?_) rfl rfl (by rfl) ?_ ?_; rotate_left 1; (· simp only [Act.put, zzA, zz0, zzS]; rfl)) | (refine tr_y (v := ?_) (a' := ?_) rfl rfl (by rfl) (fun w' hw' => ?_) ?_ ?_; rotate_left 2; (· go_simp; with_reducible rfl); (· simp only [Act.put, zzA, zz0, zzS]; rfl)))
  (first | (refine tr_off (a' := ?_) rfl rfl (by rfl) ?_ ?_; rotate_left 1; (· simp only [Act.put, zzA, zz0, zzS]; rfl)) | (refine tr_y (v := ?_) (a' := ?_) rfl rfl (by rfl) (fun w' hw' => ?_) ?_ ?_; rotate_left 2; (· go_simp; with_reducible rfl); (· simp only [Act.put, zzA, zz0, zzS]; rfl)))
  (first | (refine tr_off (a' := ?_) rfl rfl (by rfl) ?_ ?_; rotate_left 1; (· simp only [Act.put, zzA, zz0, zzS]; rfl)) | (refine tr_y (v := ?_) (a' := ?_) rfl rfl (by rfl) (fun w' hw' => ?_) ?_ ?_; rotate_left 2; (· go_simp; with_reducible rfl); (· simp only [Act.put, zzA, zz0, zzS]; rfl)))
  (first | (refine tr_off (a' := ?_) rfl rfl (by rfl) ?_ ?_; rotate_left 1; (· simp only [Act.put, zzA, zz0, zzS]; rfl)) | (refine tr_y (v := ?_) (a' := ?_) rfl rfl (by rfl) (fun w' hw' => ?_) ?_ ?_; rotate_left 2; (· go_simp; with_reducible rfl); (· simp only [Act.put, zzA, zz0, zzS]; rfl)))
  (first | (refine tr_off (a' := ?_) rfl rfl (by rfl) ?_ ?_; rotate_left 1; (· simp only [Act.put, zzA, zz0, zzS]; rfl)) | (refine tr_y (v := ?_) (a' := ?_) rfl rfl (by rfl) (fun w' hw' => ?_) ?_ ?_; rotate_left 2; (· go_simp; with_reducible rfl); (· simp only [Act.put, zzA, zz0, zzS]; rfl)))
  refine tr_call (args := ?_) rfl Tryz.func63 (by kernel_rfl) rfl (by rfl) rfl rfl ?_ ?_
  rotate_left 1
  · go_simp; rfl
  (with_reducible refine (hr1 _).mono ?_)
  rintro e q3 ⟨rfl, e3⟩
  have hY3 := hY2.trans e3
  refine ⟨_, _, rfl, hY3, (by simp only [Act.put, zzA, zz0, zzS]; rfl), ?_⟩
  refine tr_call (args := ?_) rfl Tryz.func62 (by kernel_rfl) rfl (by rfl) rfl rfl ?_ ?_
  rotate_left 1
  · go_simp; rfl
  (with_reducible refine (nm2 _).mono ?_)
  rintro e q4 ⟨rfl, e4⟩
  have hY4 := hY3.trans e4
  refine ⟨_, _, rfl, hY4, (by simp only [Act.put, zzA, zz0, zzS]; rfl), ?_⟩
  (first | (refine tr_off (a' := ?_) rfl rfl (by rfl) ?_ ?_; rotate_left 1; (· simp only [Act.put, zzA, zz0, zzS]; rfl)) | (refine tr_y (v := ?_) (a' := ?_) rfl rfl (by rfl) (fun w' hw' => ?_) ?_ ?_; rotate_left 2; (· go_simp; with_reducible rfl); (· simp only [Act.put, zzA, zz0, zzS]; rfl)))
  (first | (refine tr_off (a' := ?_) rfl rfl (by rfl) ?_ ?_; rotate_left 1; (· simp only [Act.put, zzA, zz0, zzS]; rfl)) | (refine tr_y (v := ?_) (a' := ?_) rfl rfl (by rfl) (fun w' hw' => ?_) ?_ ?_; rotate_left 2; (· go_simp; with_reducible rfl); (· simp only [Act.put, zzA, zz0, zzS]; rfl)))
  refine tr_end ?_
  refine NoPanic.normal ?_
  cases n2
  · go_wp2_with fail
    go_ret
    exact ⟨ret_int (by rw [HC.out]; simp [*]), hE.trans hY4⟩
  clear nm1 nm2 hr0 hr1
  go_upto_region 6 with fail
  cases o1
  rotate_left 1
  · refine wp_region_noPanic ?_
    refine tr_start (.y 0 (.y 2 (.y 3 (.e 1 (.e 4 (.y 5 (.y 6 (.y 7 (.y 8 (.y 9 (.y 10 (.y 11 (.y 12 (.y 13 (.y 14 (.y 15 (.y 16 (.y 17 (.y 18 (.y 19 (.y 20 (.y 21 (.y 22 (.y 23 (.y 24 (.y 25 (.y 26 (.y 27 (.y 28 (.y 29 (.y 30 (.y 31 (.y 32 (.y 33 (.y 34 (.y 35 (.y 36 (.y 37 (.y 38 (.y 39 .nil)))))))))))))))))))))))))))))))))))))))) (fun w' => Ext W w') (by kernel_rfl) (by as_aux_lemma => kernel_rfl) (fun _ _ _ _ _ h => h) (by (repeat (first | assumption | exact Ext.refl _ | refine Ext.drew ?_ | refine Ext.alloc ?_ _ | refine Ext.drewN ?_ _ | refine Ext.trans ?_ (by assumption)))) ?_
    have ea0 : Ext q4 q4.drew := (Ext.refl _).drew
    generalize q4.drew = qa0 at ea0 ⊢
    have hYa0 := hY4.trans ea0
    (first | (refine tr_off (a' := ?_) rfl rfl (by rfl) ?_ ?_; rotate_left 1; (· simp only [Act.put, zzA, zz0, zzS]; rfl)) | (refine tr_y (v := ?_) (a' := ?_) rfl rfl (by rfl) (fun w' hw' => ?_) ?_ ?_; rotate_left 2; (· go_simp; with_reducible rfl); (· simp only [Act.put, zzA, zz0, zzS]; rfl)))
    (first | (refine tr_off (a' := ?_) rfl rfl (by rfl) ?_ ?_; rotate_left 1; (· simp only [Act.put, zzA, zz0, zzS]; rfl)) | (refine tr_y (v := ?_) (a' := ?_) rfl rfl (by rfl) (fun w' hw' => ?_) ?_ ?_; rotate_left 2; (· go_simp; with_reducible rfl); (· simp only [Act.put, zzA, zz0, zzS]; rfl)))
    (first | (refine tr_off (a' := ?_) rfl rfl (by rfl) ?_ ?_; rotate_left 1; (· simp only [Act.put, zzA, zz0, zzS]; rfl)) | (refine tr_y (v := ?_) (a' := ?_) rfl rfl (by rfl) (fun w' hw' => ?_) ?_ ?_; rotate_left 2; (· go_simp; with_reducible rfl); (· simp only [Act.put, zzA, zz0, zzS]; rfl)))
    refine tr_call (args := ?_) rfl Tryz.func63 (by kernel_rfl) rfl (by rfl) rfl rfl ?_ ?_
    rotate_left 1
    · go_simp; rfl
    (with_reducible refine (hr2 _).mono ?_)
    rintro e qa1 ⟨rfl, ea1⟩
    have hYa1 := hYa0.trans ea1
    refine ⟨_, _, rfl, hYa1, (by simp only [Act.put, zzA, zz0, zzS]; rfl), ?_⟩
    refine tr_call (args := ?_) rfl Tryz.func64 (by kernel_rfl) rfl (by rfl) rfl rfl ?_ ?_
    rotate_left 1
    · go_simp; rfl
    (with_reducible refine (pl1 _).mono ?_)
    rintro e qa2 ⟨rfl, ea2⟩
    have hYa2 := hYa1.trans ea2
    refine ⟨_, _, rfl, hYa2, (by simp only [Act.put, zzA, zz0, zzS]; rfl), ?_⟩
    (first | (refine tr_off (a' := ?_) rfl rfl (by rfl) ?_ ?_; rotate_left 1; (· simp only [Act.put, zzA, zz0, zzS]; rfl)) | (refine tr_y (v := ?_) (a' := ?_) rfl rfl (by rfl) (fun w' hw' => ?_) ?_ ?_; rotate_left 2; (· go_simp; with_reducible rfl); (· simp only [Act.put, zzA, zz0, zzS]; rfl)))
    (first | (refine tr_off (a' := ?_) rfl rfl (by rfl) ?_ ?_; rotate_left 1; (· simp only [Act.put, zzA, zz0, zzS]; rfl)) | (refine tr_y (v := ?_) (a' := ?_) rfl rfl (by rfl) (fun w' hw' => ?_) ?_ ?_; rotate_left 2; (· go_simp; with_reducible rfl); (· simp only [Act.put, zzA, zz0, zzS]; rfl)))
    (first | (refine tr_off (a' := ?_) rfl rfl (by rfl) ?_ ?_; rotate_left 1; (· simp only [Act.put, zzA, zz0, zzS]; rfl)) | (refine tr_y (v := ?_) (a' := ?_) rfl rfl (by rfl) (fun w' hw' => ?_) ?_ ?_; rotate_left 2; (· go_simp; with_reducible rfl); (· simp only [Act.put, zzA, zz0, zzS]; rfl)))
    (first | (refine tr_off (a' := ?_) rfl rfl (by rfl) ?_ ?_; rotate_left 1; (· simp only [Act.put, zzA, zz0, zzS]; rfl)) | (refine tr_y (v := ?_) (a' := ?_) rfl rfl (by rfl) (fun w' hw' => ?_) ?_ ?_; rotate_left 2; (· go_simp; with_reducible rfl); (· simp only [Act.put, zzA, zz0, zzS]; rfl)))
    (first | (refine tr_off (a' := ?_) rfl rfl (by rfl) ?_ ?_; rotate_left 1; (· simp only [Act.put, zzA, zz0, zzS]; rfl)) | (refine tr_y (v := ?_) (a' := ?_) rfl rfl (by rfl) (fun w' hw' => ?_) ?_ ?_; rotate_left 2; (· go_simp; with_reducible rfl); (· simp only [Act.put, zzA, zz0, zzS]; rfl)))
    (first | (refine tr_off (a' := ?_) rfl rfl (by rfl) ?_ ?_; rotate_left 1; (· simp only [Act.put, zzA, zz0, zzS]; rfl)) | (refine tr_y (v := ?_) (a' := ?_) rfl rfl (by rfl) (fun w' hw' => ?_) ?_ ?_; rotate_left 2; (· go_simp; with_reducible rfl); (· simp only [Act.put, zzA, zz0, zzS]; rfl)))
    (first | (refine tr_off (a' := ?_) rfl rfl (by rfl) ?_ ?_; rotate_left 1; (· simp only [Act.put, zzA, zz0, zzS]; rfl)) | (refine tr_y (v := ?_) (a' := ?_) rfl rfl (by rfl) (fun w' hw' => ?_) ?_ ?_; rotate_left 2; (· go_simp; with_reducible rfl); (· simp only [Act.put, zzA, zz0, zzS]; rfl)))
    (first | (refine tr_off (a' := ?_) rfl rfl (by rfl) ?_ ?_; rotate_left 1; (· simp only [Act.put, zzA, zz0, zzS]; rfl)) | (refine tr_y (v := ?_) (a' := ?_) rfl rfl (by rfl) (fun w' hw' => ?_) ?_ ?_; rotate_left 2; (· go_simp; with_reducible rfl); (· simp only [Act.put, zzA, zz0, zzS]; rfl)))
    (first | (refine tr_off (a' := ?_) rfl rfl (by rfl) ?_ ?_; rotate_left 1; (· simp only [Act.put, zzA, zz0, zzS]; rfl)) | (refine tr_y (v := ?_) (a' := ?_) rfl rfl (by rfl) (fun w' hw' => ?_) ?_ ?_; rotate_left 2; (· go_simp; with_reducible rfl); (· simp only [Act.put, zzA, zz0, zzS]; rfl)))
    (first | (refine tr_off (a' := ?_) rfl rfl (by rfl) ?_ ?_; rotate_left 1; (· simp only [Act.put, zzA, zz0, zzS]; rfl)) | (refine tr_y (v := ?_) (a' := ?_) rfl rfl (by rfl) (fun w' hw' => ?_) ?_ ?_; rotate_left 2; (· go_simp; with_reducible rfl); (· simp only [Act.put, zzA, zz0, zzS]; rfl)))
    (first | (refine tr_off (a' := ?_) rfl rfl (by rfl) ?_ ?_; rotate_left 1; (· simp only [Act.put, zzA, zz0, zzS]; rfl)) | (refine tr_y (v := ?_) (a' := ?_) rfl rfl (by rfl) (fun w' hw' => ?_) ?_ ?_; rotate_left 2; (· go_simp; with_reducible rfl); (· simp only [Act.put, zzA, zz0, zzS]; rfl)))
    (first | (refine tr_off (a' := ?_) rfl rfl (by rfl) ?_ ?_; rotate_left 1; (· simp only [Act.put, zzA, zz0, zzS]; rfl)) | (refine tr_y (v := ?_) (a' := ?_) rfl rfl (by rfl) (fun w' hw' => ?_) ?_ ?_; rotate_left 2; (· go_simp; with_reducible rfl); (· simp only [Act.put, zzA, zz0, zzS]; rfl)))
    (first | (refine tr_off (a' := ?_) rfl rfl (by rfl) ?_ ?_; rotate_left 1; (· simp only [Act.put, zzA, zz0, zzS]; rfl)) | (refine tr_y (v := ?_) (a' := ?_) rfl rfl (by rfl) (fun w' hw' => ?_) ?_ ?_; rotate_left 2; (· go_simp; with_reducible rfl); (· simp only [Act.put, zzA, zz0, zzS]; rfl)))
    (first | (refine tr_off (a' := ?_) rfl rfl (by rfl) ?_ ?_; rotate_left 1; (· simp only [Act.put, zzA, zz0, zzS]; rfl)) | (refine tr_y (v := ?_) (a' := ?_) rfl rfl (by rfl) (fun w' hw' => ?_) ?_ ?_; rotate_left 2; (· go_simp; with_reducible rfl); (· simp only [Act.put, zzA, zz0, zzS]; rfl)))
    (first | (refine tr_off (a' := ?_) rfl rfl (by rfl) ?_ ?_; rotate_left 1; (· simp only [Act.put, zzA, zz0, zzS]; rfl)) | (refine tr_y (v := ?_) (a' := ?_) rfl rfl (by rfl) (fun w' hw' => ?_) ?_ ?_; rotate_left 2; (· go_simp; with_reducible rfl); (· simp only [Act.put, zzA, zz0, zzS]; rfl)))
    (first | (refine tr_off (a' := ?_) rfl rfl (by rfl) ?_ ?_; rotate_left 1; (· simp only [Act.put, zzA, zz0, zzS]; rfl)) | (refine tr_y (v := ?_) (a' := ?_) rfl rfl (by rfl) (fun w' hw' => ?_) ?_ ?_; rotate_left 2; (· go_simp; with_reducible rfl); (· simp only [Act.put, zzA, zz0, zzS]; rfl)))
    (first | (refine tr_off (a' := ?_) rfl rfl (by rfl) ?_ ?_; rotate_left 1; (· simp only [Act.put, zzA, zz0, zzS]; rfl)) | (refine tr_y (v := ?_) (a' := ?_) rfl rfl (by rfl) (fun w' hw' => ?_) ?_ ?_; rotate_left 2; (· go_simp; with_reducible rfl); (· simp only [Act.put, zzA, zz0, zzS]; rfl)))
    (first | (refine tr_off (a' := ?_) rfl rfl (by rfl) ?_ ?_; rotate_left 1; (· simp only [Act.put, zzA, zz0, zzS]; rfl)) | (refine tr_y (v := ?_) (a' := ?_) rfl rfl (by rfl) (fun w' hw' => ?_) ?_ ?_; rotate_left 2; (· go_simp; with_reducible rfl); (· simp only [Act.put, zzA, zz0, zzS]; rfl)))
    (first | (refine tr_off (a' := ?_) rfl rfl (by rfl) ?_ ?_; rotate_left 1; (· simp only [Act.put, zzA, zz0, zzS]; rfl)) | (refine tr_y (v := ?_) (a' := ?_) rfl rfl (by rfl) (fun w' hw' => ?_) ?_ ?_; rotate_left 2; (· go_simp; with_reducible rfl); (· simp only [Act.put, zzA, zz0, zzS]; rfl)))
    (first | (refine tr_off (a' := ?_) rfl rfl (by rfl) ?_ ?_; rotate_left 1; (· simp only [Act.put, zzA, zz0, zzS]; rfl)) | (refine tr_y (v := ?_) (a' := ?_) rfl rfl (by rfl) (fun w' hw' => ?_) ?_ ?_; rotate_left 2; (· go_simp; with_reducible rfl); (· simp only [Act.put, zzA, zz0, zzS]; rfl)))
    (first | (refine tr_off (a' := ?_) rfl rfl (by rfl) ?_ ?_; rotate_left 1; (· simp only [Act.put, zzA, zz0, zzS]; rfl)) | (refine tr_y (v := ?_) (a' := ?_) rfl rfl (by rfl) (fun w' hw' => ?_) ?_ ?_; rotate_left 2; (· go_simp; with_reducible rfl); (· simp only [Act.put, zzA, zz0, zzS]; rfl)))
    (first | (refine tr_off (a' := ?_) rfl rfl (by rfl) ?_ ?_; rotate_left 1; (· simp only [Act.put, zzA, zz0, zzS]; rfl)) | (refine tr_y (v := ?_) (a' := ?_) rfl rfl (by rfl) (fun w' hw' => ?_) ?_ ?_; rotate_left 2; (· go_simp; with_reducible rfl); (· simp only [Act.put, zzA, zz0, zzS]; rfl)))
    (first | (refine tr_off (a' := ?_) rfl rfl (by rfl) ?_ ?_; rotate_left 1; (· simp only [Act.put, zzA, zz0, zzS]; rfl)) | (refine tr_y (v := ?_) (a' := ?_) rfl rfl (by rfl) (fun w' hw' => ?_) ?_ ?_; rotate_left 2; (· go_simp; with_reducible rfl); (· simp only [Act.put, zzA, zz0, zzS]; rfl)))
    (first | (refine tr_off (a' := ?_) rfl rfl (by rfl) ?_ ?_; rotate_left 1; (· simp only [Act.put, zzA, zz0, zzS]; rfl)) | (refine tr_y (v := ?_) (a' := ?_) rfl rfl (by rfl) (fun w' hw' => ?_) ?_ ?_; rotate_left 2; (· go_simp; with_reducible rfl); (· simp only [Act.put, zzA, zz0, zzS]; rfl)))
    (first | (refine tr_off (a' := ?_) rfl rfl (by rfl) ?_ ?_; rotate_left 1; (· simp only [Act.put, zzA, zz0, zzS]; rfl)) | (refine tr_y (v := ?_) (a' := ?_) rfl rfl (by rfl) (fun w' hw' => ?_) ?_ ?_; rotate_left 2; (· go_simp; with_reducible rfl); (· simp only [Act.put, zzA, zz0, zzS]; rfl)))
    (first | (refine tr_off (a' := ?_) rfl rfl (by rfl) ?_ ?_; rotate_left 1; (· simp only [Act.put, zzA, zz0, zzS]; rfl)) | (refine tr_y (v := ?_) (a' := ?_) rfl rfl (by rfl) (fun w' hw' => ?_) ?_ ?_; rotate_left 2; (· go_simp; with_reducible rfl); (· simp only [Act.put, zzA, zz0, zzS]; rfl)))
    (first | (refine tr_off (a' := ?_) rfl rfl (by rfl) ?_ ?_; rotate_left 1; (· simp only [Act.put, zzA, zz0, zzS]; rfl)) | (refine tr_y (v := ?_) (a' := ?_) rfl rfl (by rfl) (fun w' hw' => ?_) ?_ ?_; rotate_left 2; (· go_simp; with_reducible rfl); (· simp only [Act.put, zzA, zz0, zzS]; rfl)))
    (first | (refine tr_off (a' := ?_) rfl rfl (by rfl) ?_ ?_; rotate_left 1; (· simp only [Act.put, zzA, zz0, zzS]; rfl)) | (refine tr_y (v := ?_) (a' := ?_) rfl rfl (by rfl) (fun w' hw' => ?_) ?_ ?_; rotate_left 2; (· go_simp; with_reducible rfl); (· simp only [Act.put, zzA, zz0, zzS]; rfl)))
    (first | (refine tr_off (a' := ?_) rfl rfl (by rfl) ?_ ?_; rotate_left 1; (· simp only [Act.put, zzA, zz0, zzS]; rfl)) | (refine tr_y (v := ?_) (a' := ?_) rfl rfl (by rfl) (fun w' hw' => ?_) ?_ ?_; rotate_left 2; (· go_simp; with_reducible rfl); (· simp only [Act.put, zzA, zz0, zzS]; rfl)))
    (first | (refine tr_off (a' := ?_) rfl rfl (by rfl) ?_ ?_; rotate_left 1; (· simp only [Act.put, zzA, zz0, zzS]; rfl)) | (refine tr_y (v := ?_) (a' := ?_) rfl rfl (by rfl) (fun w' hw' => ?_) ?_ ?_; rotate_left 2; (· go_simp; with_reducible rfl); (· simp only [Act.put, zzA, zz0, zzS]; rfl)))
    (first | (refine tr_off (a' := ?_) rfl rfl (by rfl) ?_ ?_; rotate_left 1; (· simp only [Act.put, zzA, zz0, zzS]; rfl)) | (refine tr_y (v := ?_) (a' := ?_) rfl rfl (by rfl) (fun w' hw' => ?_) ?_ ?_; rotate_left 2; (· go_simp; with_reducible rfl); (· simp only [Act.put, zzA, zz0, zzS]; rfl)))
    (first | (refine tr_off (a' := ?_) rfl rfl (by rfl) ?_ ?_; rotate_left 1; (· simp only [Act.put, zzA, zz0, zzS]; rfl)) | (refine tr_y (v := ?_) (a' := ?_) rfl rfl (by rfl) (fun w' hw' => ?_) ?_ ?_; rotate_left 2; (· go_simp; with_reducible rfl); (· simp only [Act.put, zzA, zz0, zzS]; rfl)))
    (first | (refine tr_off (a' := ?_) rfl rfl (by rfl) ?_ ?_; rotate_left 1; (· simp only [Act.put, zzA, zz0, zzS]; rfl)) | (refine tr_y (v := ?_) (a' := ?_) rfl rfl (by rfl) (fun w' hw' => ?_) ?_ ?_; rotate_left 2; (· go_simp; with_reducible rfl); (· simp only [Act.put, zzA, zz0, zzS]; rfl)))
    (first | (refine tr_off (a' := ?_) rfl rfl (by rfl) ?_ ?_; rotate_left 1; (· simp only [Act.put, zzA, zz0, zzS]; rfl)) | (refine tr_y (v := ?_) (a' := ?_) rfl rfl (by rfl) (fun w' hw' => ?_) ?_ ?_; rotate_left 2; (· go_simp; with_reducible rfl); (· simp only [Act.put, zzA, zz0, zzS]; rfl)))
    (first | (refine tr_off (a' := ?_) rfl rfl (by rfl) ?_ ?_; rotate_left 1; (· simp only [Act.put, zzA, zz0, zzS]; rfl)) | (refine tr_y (v := ?_) (a' := ?_) rfl rfl (by rfl) (fun w' hw' => ?_) ?_ ?_; rotate_left 2; (· go_simp; with_reducible rfl); (· simp only [Act.put, zzA, zz0, zzS]; rfl)))
    refine tr_end ?_
    refine NoPanic.normal ?_
    go_wp2_with fail
    go_ret
    exact ⟨ret_int (by rw [HC.out]; simp [*]), hE.trans hYa2⟩
  cases o2
  rotate_left 1
  · refine wp_region_noPanic ?_
    refine tr_start (.y 0 (.y 2 (.y 3 (.e 1 (.e 4 (.y 5 (.y 6 (.y 7 (.y 9 (.y 10 (.e 8 (.e 11 (.y 12 (.y 13 (.y 14 (.y 15 (.y 16 (.y 17 (.y 18 (.y 19 (.y 20 (.y 21 (.y 22 (.y 23 (.y 24 (.y 25 (.y 26 (.y 27 (.y 28 (.y 29 (.y 30 (.y 31 (.y 32 (.y 33 (.y 34 (.y 35 (.y 36 (.y 37 (.y 38 (.y 39 .nil)))))))))))))))))))))))))))))))))))))))) (fun w' => Ext W w') (by kernel_rfl) (by as_aux_lemma => kernel_rfl) (fun _ _ _ _ _ h => h) (by (repeat (first | assumption | exact Ext.refl _ | refine Ext.drew ?_ | refine Ext.alloc ?_ _ | refine Ext.drewN ?_ _ | refine Ext.trans ?_ (by assumption)))) ?_
    have ea0 : Ext q4 q4.drew := (Ext.refl _).drew
    generalize q4.drew = qa0 at ea0 ⊢
    have hYa0 := hY4.trans ea0
    (first | (refine tr_off (a' := ?_) rfl rfl (by rfl) ?_ ?_; rotate_left 1; (· simp only [Act.put, zzA, zz0, zzS]; rfl)) | (refine tr_y (v := ?_) (a' := ?_) rfl rfl (by rfl) (fun w' hw' => ?_) ?_ ?_; rotate_left 2; (· go_simp; with_reducible rfl); (· simp only [Act.put, zzA, zz0, zzS]; rfl)))
    (first | (refine tr_off (a' := ?_) rfl rfl (by rfl) ?_ ?_; rotate_left 1; (· simp only [Act.put, zzA, zz0, zzS]; rfl)) | (refine tr_y (v := ?_) (a' := ?_) rfl rfl (by rfl) (fun w' hw' => ?_) ?_ ?_; rotate_left 2; (· go_simp; with_reducible rfl); (· simp only [Act.put, zzA, zz0, zzS]; rfl)))
    (first | (refine tr_off (a' := ?_) rfl rfl (by rfl) ?_ ?_; rotate_left 1; (· simp only [Act.put, zzA, zz0, zzS]; rfl)) | (refine tr_y (v := ?_) (a' := ?_) rfl rfl (by rfl) (fun w' hw' => ?_) ?_ ?_; rotate_left 2; (· go_simp; with_reducible rfl); (· simp only [Act.put, zzA, zz0, zzS]; rfl)))
    refine tr_call (args := ?_) rfl Tryz.func63 (by kernel_rfl) rfl (by rfl) rfl rfl ?_ ?_
    rotate_left 1
    · go_simp; rfl
    (with_reducible refine (hr2 _).mono ?_)
    rintro e qa1 ⟨rfl, ea1⟩
    have hYa1 := hYa0.trans ea1
    refine ⟨_, _, rfl, hYa1, (by simp only [Act.put, zzA, zz0, zzS]; rfl), ?_⟩
    refine tr_call (args := ?_) rfl Tryz.func64 (by kernel_rfl) rfl (by rfl) rfl rfl ?_ ?_
    rotate_left 1
    · go_simp; rfl
    (with_reducible refine (pl1 _).mono ?_)
    rintro e qa2 ⟨rfl, ea2⟩
    have hYa2 := hYa1.trans ea2
    refine ⟨_, _, rfl, hYa2, (by simp only [Act.put, zzA, zz0, zzS]; rfl), ?_⟩
    (first | (refine tr_off (a' := ?_) rfl rfl (by rfl) ?_ ?_; rotate_left 1; (· simp only [Act.put, zzA, zz0, zzS]; rfl)) | (refine tr_y (v := ?_) (a' := ?_) rfl rfl (by rfl) (fun w' hw' => ?_) ?_ ?_; rotate_left 2; (· go_simp; with_reducible rfl); (· simp only [Act.put, zzA, zz0, zzS]; rfl)))
    (first | (refine tr_off (a' := ?_) rfl rfl (by rfl) ?_ ?_; rotate_left 1; (· simp only [Act.put, zzA, zz0, zzS]; rfl)) | (refine tr_y (v := ?_) (a' := ?_) rfl rfl (by rfl) (fun w' hw' => ?_) ?_ ?_; rotate_left 2; (· go_simp; with_reducible rfl); (· simp only [Act.put, zzA, zz0, zzS]; rfl)))
    (first | (refine tr_off (a' := ?_) rfl rfl (by rfl) ?_ ?_; rotate_left 1; (· simp only [Act.put, zzA, zz0, zzS]; rfl)) | (refine tr_y (v := ?_) (a' := ?_) rfl rfl (by rfl) (fun w' hw' => ?_) ?_ ?_; rotate_left 2; (· go_simp; with_reducible rfl); (· simp only [Act.put, zzA, zz0, zzS]; rfl)))
    (first | (refine tr_off (a' := ?_) rfl rfl (by rfl) ?_ ?_; rotate_left 1; (· simp only [Act.put, zzA, zz0, zzS]; rfl)) | (refine tr_y (v := ?_) (a' := ?_) rfl rfl (by rfl) (fun w' hw' => ?_) ?_ ?_; rotate_left 2; (· go_simp; with_reducible rfl); (· simp only [Act.put, zzA, zz0, zzS]; rfl)))
    (first | (refine tr_off (a' := ?_) rfl rfl (by rfl) ?_ ?_; rotate_left 1; (· simp only [Act.put, zzA, zz0, zzS]; rfl)) | (refine tr_y (v := ?_) (a' := ?_) rfl rfl (by rfl) (fun w' hw' => ?_) ?_ ?_; rotate_left 2; (· go_simp; with_reducible rfl); (· simp only [Act.put, zzA, zz0, zzS]; rfl)))
    refine tr_call (args := ?_) rfl Tryz.func63 (by kernel_rfl) rfl (by rfl) rfl rfl ?_ ?_
    rotate_left 1
    · go_simp; rfl
    (with_reducible refine (hr4 _).mono ?_)
    rintro e qa3 ⟨rfl, ea3⟩
    have hYa3 := hYa2.trans ea3
    refine ⟨_, _, rfl, hYa3, (by simp only [Act.put, zzA, zz0, zzS]; rfl), ?_⟩
    refine tr_call (args := ?_) rfl Tryz.func64 (by kernel_rfl) rfl (by rfl) rfl rfl ?_ ?_
    rotate_left 1
    · go_simp; rfl
    (with_reducible refine (pl2 _).mono ?_)
    rintro e qa4 ⟨rfl, ea4⟩
    have hYa4 := hYa3.trans ea4
    refine ⟨_, _, rfl, hYa4, (by simp only [Act.put, zzA, zz0, zzS]; rfl), ?_⟩
    (first | (refine tr_off (a' := ?_) rfl rfl (by rfl) ?_ ?_; rotate_left 1; (· simp only [Act.put, zzA, zz0, zzS]; rfl)) | (refine tr_y (v := ?_) (a' := ?_) rfl rfl (by rfl) (fun w' hw' => ?_) ?_ ?_; rotate_left 2; (· go_simp; with_reducible rfl); (· simp only [Act.put, zzA, zz0, zzS]; rfl)))
    (first | (refine tr_off (a' := ?_) rfl rfl (by rfl) ?_ ?_; rotate_left 1; (· simp only [Act.put, zzA, zz0, zzS]; rfl)) | (refine tr_y (v := ?_) (a' := ?_) rfl rfl (by rfl) (fun w' hw' => ?_) ?_ ?_; rotate_left 2; (· go_simp; with_reducible rfl); (· simp only [Act.put, zzA, zz0, zzS]; rfl)))
    (first | (refine tr_off (a' := ?_) rfl rfl (by rfl) ?_ ?_; rotate_left 1; (· simp only [Act.put, zzA, zz0, zzS]; rfl)) | (refine tr_y (v := ?_) (a' := ?_) rfl rfl (by rfl) (fun w' hw' => ?_) ?_ ?_; rotate_left 2; (· go_simp; with_reducible rfl); (· simp only [Act.put, zzA, zz0, zzS]; rfl)))
    (first | (refine tr_off (a' := ?_) rfl rfl (by rfl) ?_ ?_; rotate_left 1; (· simp only [Act.put, zzA, zz0, zzS]; rfl)) | (refine tr_y (v := ?_) (a' := ?_) rfl rfl (by rfl) (fun w' hw' => ?_) ?_ ?_; rotate_left 2; (· go_simp; with_reducible rfl); (· simp only [Act.put, zzA, zz0, zzS]; rfl)))
    (first | (refine tr_off (a' := ?_) rfl rfl (by rfl) ?_ ?_; rotate_left 1; (· simp only [Act.put, zzA, zz0, zzS]; rfl)) | (refine tr_y (v := ?_) (a' := ?_) rfl rfl (by rfl) (fun w' hw' => ?_) ?_ ?_; rotate_left 2; (· go_simp; with_reducible rfl); (· simp only [Act.put, zzA, zz0, zzS]; rfl)))
    (first | (refine tr_off (a' := ?_) rfl rfl (by rfl) ?_ ?_; rotate_left 1; (· simp only [Act.put, zzA, zz0, zzS]; rfl)) | (refine tr_y (v := ?_) (a' := ?_) rfl rfl (by rfl) (fun w' hw' => ?_) ?_ ?_; rotate_left 2; (· go_simp; with_reducible rfl); (· simp only [Act.put, zzA, zz0, zzS]; rfl)))
    (first | (refine tr_off (a' := ?_) rfl rfl (by rfl) ?_ ?_; rotate_left 1; (· simp only [Act.put, zzA, zz0, zzS]; rfl)) | (refine tr_y (v := ?_) (a' := ?_) rfl rfl (by rfl) (fun w' hw' => ?_) ?_ ?_; rotate_left 2; (· go_simp; with_reducible rfl); (· simp only [Act.put, zzA, zz0, zzS]; rfl)))
    (first | (refine tr_off (a' := ?_) rfl rfl (by rfl) ?_ ?_; rotate_left 1; (· simp only [Act.put, zzA, zz0, zzS]; rfl)) | (refine tr_y (v := ?_) (a' := ?_) rfl rfl (by rfl) (fun w' hw' => ?_) ?_ ?_; rotate_left 2; (· go_simp; with_reducible rfl); (· simp only [Act.put, zzA, zz0, zzS]; rfl)))
    (first | (refine tr_off (a' := ?_) rfl rfl (by rfl) ?_ ?_; rotate_left 1; (· simp only [Act.put, zzA, zz0, zzS]; rfl)) | (refine tr_y (v := ?_) (a' := ?_) rfl rfl (by rfl) (fun w' hw' => ?_) ?_ ?_; rotate_left 2; (· go_simp; with_reducible rfl); (· simp only [Act.put, zzA, zz0, zzS]; rfl)))
    (first | (refine tr_off (a' := ?_) rfl rfl (by rfl) ?_ ?_; rotate_left 1; (· simp only [Act.put, zzA, zz0, zzS]; rfl)) | (refine tr_y (v := ?_) (a' := ?_) rfl rfl (by rfl) (fun w' hw' => ?_) ?_ ?_; rotate_left 2; (· go_simp; with_reducible rfl); (· simp only [Act.put, zzA, zz0, zzS]; rfl)))
    (first | (refine tr_off (a' := ?_) rfl rfl (by rfl) ?_ ?_; rotate_left 1; (· simp only [Act.put, zzA, zz0, zzS]; rfl)) | (refine tr_y (v := ?_) (a' := ?_) rfl rfl (by rfl) (fun w' hw' => ?_) ?_ ?_; rotate_left 2; (· go_simp; with_reducible rfl); (· simp only [Act.put, zzA, zz0, zzS]; rfl)))
    (first | (refine tr_off (a' := ?_) rfl rfl (by rfl) ?_ ?_; rotate_left 1; (· simp only [Act.put, zzA, zz0, zzS]; rfl)) | (refine tr_y (v := ?_) (a' := ?_) rfl rfl (by rfl) (fun w' hw' => ?_) ?_ ?_; rotate_left 2; (· go_simp; with_reducible rfl); (· simp only [Act.put, zzA, zz0, zzS]; rfl)))
    (first | (refine tr_off (a' := ?_) rfl rfl (by rfl) ?_ ?_; rotate_left 1; (· simp only [Act.put, zzA, zz0, zzS]; rfl)) | (refine tr_y (v := ?_) (a' := ?_) rfl rfl (by rfl) (fun w' hw' => ?_) ?_ ?_; rotate_left 2; (· go_simp; with_reducible rfl); (· simp only [Act.put, zzA, zz0, zzS]; rfl)))
    (first | (refine tr_off (a' := ?_) rfl rfl (by rfl) ?_ ?_; rotate_left 1; (· simp only [Act.put, zzA, zz0, zzS]; rfl)) | (refine tr_y (v := ?_) (a' := ?_) rfl rfl (by rfl) (fun w' hw' => ?_) ?_ ?_; rotate_left 2; (· go_simp; with_reducible rfl); (· simp only [Act.put, zzA, zz0, zzS]; rfl)))
    (first | (refine tr_off (a' := ?_) rfl rfl (by rfl) ?_ ?_; rotate_left 1; (· simp only [Act.put, zzA, zz0, zzS]; rfl)) | (refine tr_y (v := ?_) (a' := ?_) rfl rfl (by rfl) (fun w' hw' => ?_) ?_ ?_; rotate_left 2; (· go_simp; with_reducible rfl); (· simp only [Act.put, zzA, zz0, zzS]; rfl)))
    (first | (refine tr_off (a' := ?_) rfl rfl (by rfl) ?_ ?_; rotate_left 1; (· simp only [Act.put, zzA, zz0, zzS]; rfl)) | (refine tr_y (v := ?_) (a' := ?_) rfl rfl (by rfl) (fun w' hw' => ?_) ?_ ?_; rotate_left 2; (· go_simp; with_reducible rfl); (· simp only [Act.put, zzA, zz0, zzS]; rfl)))
    (first | (refine tr_off (a' := ?_) rfl rfl (by rfl) ?_ ?_; rotate_left 1; (· simp only [Act.put, zzA, zz0, zzS]; rfl)) | (refine tr_y (v := ?_) (a' := ?_) rfl rfl (by rfl) (fun w' hw' => ?_) ?_ ?_; rotate_left 2; (· go_simp; with_reducible rfl); (· simp only [Act.put, zzA, zz0, zzS]; rfl)))
    (first | (refine tr_off (a' := ?_) rfl rfl (by rfl) ?_ ?_; rotate_left 1; (· simp only [Act.put, zzA, zz0, zzS]; rfl)) | (refine tr_y (v := ?_) (a' := ?_) rfl rfl (by rfl) (fun w' hw' => ?_) ?_ ?_; rotate_left 2; (· go_simp; with_reducible rfl); (· simp only [Act.put, zzA, zz0, zzS]; rfl)))
    (first | (refine tr_off (a' := ?_) rfl rfl (by rfl) ?_ ?_; rotate_left 1; (· simp only [Act.put, zzA, zz0, zzS]; rfl)) | (refine tr_y (v := ?_) (a' := ?_) rfl rfl (by rfl) (fun w' hw' => ?_) ?_ ?_; rotate_left 2; (· go_simp; with_reducible rfl); (· simp only [Act.put, zzA, zz0, zzS]; rfl)))
    (first | (refine tr_off (a' := ?_) rfl rfl (by rfl) ?_ ?_; rotate_left 1; (· simp only [Act.put, zzA, zz0, zzS]; rfl)) | (refine tr_y (v := ?_) (a' := ?_) rfl rfl (by rfl) (fun w' hw' => ?_) ?_ ?_; rotate_left 2; (· go_simp; with_reducible rfl); (· simp only [Act.put, zzA, zz0, zzS]; rfl)))
    (first | (refine tr_off (a' := ?_) rfl rfl (by rfl) ?_ ?_; rotate_left 1; (· simp only [Act.put, zzA, zz0, zzS]; rfl)) | (refine tr_y (v := ?_) (a' := ?_) rfl rfl (by rfl) (fun w' hw' => ?_) ?_ ?_; rotate_left 2; (· go_simp; with_reducible rfl); (· simp only [Act.put, zzA, zz0, zzS]; rfl)))
    (first | (refine tr_off (a' := ?_) rfl rfl (by rfl) ?_ ?_; rotate_left 1; (· simp only [Act.put, zzA, zz0, zzS]; rfl)) | (refine tr_y (v := ?_) (a' := ?_) rfl rfl (by rfl) (fun w' hw' => ?_) ?_ ?_; rotate_left 2; (· go_simp; with_reducible rfl); (· simp only [Act.put, zzA, zz0, zzS]; rfl)))
    (first | (refine tr_off (a' := ?_) rfl rfl (by rfl) ?_ ?_; rotate_left 1; (· simp only [Act.put, zzA, zz0, zzS]; rfl)) | (refine tr_y (v := ?_) (a' := ?_) rfl rfl (by rfl) (fun w' hw' => ?_) ?_ ?_; rotate_left 2; (· go_simp; with_reducible rfl); (· simp only [Act.put, zzA, zz0, zzS]; rfl)))
    (first | (refine tr_off (a' := ?_) rfl rfl (by rfl) ?_ ?_; rotate_left 1; (· simp only [Act.put, zzA, zz0, zzS]; rfl)) | (refine tr_y (v := ?_) (a' := ?_) rfl rfl (by rfl) (fun w' hw' => ?_) ?_ ?_; rotate_left 2; (· go_simp; with_reducible rfl); (· simp only [Act.put, zzA, zz0, zzS]; rfl)))
    (first | (refine tr_off (a' := ?_) rfl rfl (by rfl) ?_ ?_; rotate_left 1; (· simp only [Act.put, zzA, zz0, zzS]; rfl)) | (refine tr_y (v := ?_) (a' := ?_) rfl rfl (by rfl) (fun w' hw' => ?_) ?_ ?_; rotate_left 2; (· go_simp; with_reducible rfl); (· simp only [Act.put, zzA, zz0, zzS]; rfl)))
    (first | (refine tr_off (a' := ?_) rfl rfl (by rfl) ?_ ?_; rotate_left 1; (· simp only [Act.put, zzA, zz0, zzS]; rfl)) | (refine tr_y (v := ?_) (a' := ?_) rfl rfl (by rfl) (fun w' hw' => ?_) ?_ ?_; rotate_left 2; (· go_simp; with_reducible rfl); (· simp only [Act.put, zzA, zz0, zzS]; rfl)))
    (first | (refine tr_off (a' := ?_) rfl rfl (by rfl) ?_ ?_; rotate_left 1; (· simp only [Act.put, zzA, zz0, zzS]; rfl)) | (refine tr_y (v := ?_) (a' := ?_) rfl rfl (by rfl) (fun w' hw' => ?_) ?_ ?_; rotate_left 2; (· go_simp; with_reducible rfl); (· simp only [Act.put, zzA, zz0, zzS]; rfl)))
    (first | (refine tr_off (a' := ?_) rfl rfl (by rfl) ?_ ?_; rotate_left 1; (· simp only [Act.put, zzA, zz0, zzS]; rfl)) | (refine tr_y (v := ?_) (a' := ?_) rfl rfl (by rfl) (fun w' hw' => ?_) ?_ ?_; rotate_left 2; (· go_simp; with_reducible rfl); (· simp only [Act.put, zzA, zz0, zzS]; rfl)))
    refine tr_end ?_
    refine NoPanic.normal ?_
    go_wp2_with fail
    go_ret
    exact ⟨ret_int (by rw [HC.out]; simp [*]), hE.trans hYa4⟩
  cases o3
  rotate_left 1
  · refine wp_region_noPanic ?_
    refine tr_start (.y 0 (.y 2 (.y 3 (.e 1 (.e 4 (.y 5 (.y 6 (.y 7 (.y 9 (.y 10 (.e 8 (.e 11 (.y 12 (.y 13 (.y 14 (.y 15 (.y 17 (.y 18 (.e 16 (.e 19 (.y 20 (.y 21 (.y 22 (.y 23 (.y 24 (.y 25 (.y 26 (.y 27 (.y 28 (.y 29 (.y 30 (.y 31 (.y 32 (.y 33 (.y 34 (.y 35 (.y 36 (.y 37 (.y 38 (.y 39 .nil)))))))))))))))))))))))))))))))))))))))) (fun w' => Ext W w') (by kernel_rfl) (by as_aux_lemma => kernel_rfl) (fun _ _ _ _ _ h => h) (by (repeat (first | assumption | exact Ext.refl _ | refine Ext.drew ?_ | refine Ext.alloc ?_ _ | refine Ext.drewN ?_ _ | refine Ext.trans ?_ (by assumption)))) ?_
    have ea0 : Ext q4 q4.drew := (Ext.refl _).drew
    generalize q4.drew = qa0 at ea0 ⊢
    have hYa0 := hY4.trans ea0
    (first | (refine tr_off (a' := ?_) rfl rfl (by rfl) ?_ ?_; rotate_left 1; (· simp only [Act.put, zzA, zz0, zzS]; rfl)) | (refine tr_y (v := ?_) (a' := ?_) rfl rfl (by rfl) (fun w' hw' => ?_) ?_ ?_; rotate_left 2; (· go_simp; with_reducible rfl); (· simp only [Act.put, zzA, zz0, zzS]; rfl)))
    (first | (refine tr_off (a' := ?_) rfl rfl (by rfl) ?_ ?_; rotate_left 1; (· simp only [Act.put, zzA, zz0, zzS]; rfl)) | (refine tr_y (v := ?_) (a' := ?_) rfl rfl (by rfl) (fun w' hw' => ?_) ?_ ?_; rotate_left 2; (· go_simp; with_reducible rfl); (· simp only [Act.put, zzA, zz0, zzS]; rfl)))
    (first | (refine tr_off (a' := ?_) rfl rfl (by rfl) ?_ ?_; rotate_left 1; (· simp only [Act.put, zzA, zz0, zzS]; rfl)) | (refine tr_y (v := ?_) (a' := ?_) rfl rfl (by rfl) (fun w' hw' => ?_) ?_ ?_; rotate_left 2; (· go_simp; with_reducible rfl); (· simp only [Act.put, zzA, zz0, zzS]; rfl)))
    refine tr_call (args := ?_) rfl Tryz.func63 (by kernel_rfl) rfl (by rfl) rfl rfl ?_ ?_
    rotate_left 1
    · go_simp; rfl
    (with_reducible refine (hr2 _).mono ?_)
    rintro e qa1 ⟨rfl, ea1⟩
    have hYa1 := hYa0.trans ea1
    refine ⟨_, _, rfl, hYa1, (by simp only [Act.put, zzA, zz0, zzS]; rfl), ?_⟩
    refine tr_call (args := ?_) rfl Tryz.func64 (by kernel_rfl) rfl (by rfl) rfl rfl ?_ ?_
    rotate_left 1
    · go_simp; rfl
    (with_reducible refine (pl1 _).mono ?_)
    rintro e qa2 ⟨rfl, ea2⟩
    have hYa2 := hYa1.trans ea2
    refine ⟨_, _, rfl, hYa2, (by simp only [Act.put, zzA, zz0, zzS]; rfl), ?_⟩
    (first | (refine tr_off (a' := ?_) rfl rfl (by rfl) ?_ ?_; rotate_left 1; (· simp only [Act.put, zzA, zz0, zzS]; rfl)) | (refine tr_y (v := ?_) (a' := ?_) rfl rfl (by rfl) (fun w' hw' => ?_) ?_ ?_; rotate_left 2; (· go_simp; with_reducible rfl); (· simp only [Act.put, zzA, zz0, zzS]; rfl)))
    (first | (refine tr_off (a' := ?_) rfl rfl (by rfl) ?_ ?_; rotate_left 1; (· simp only [Act.put, zzA, zz0, zzS]; rfl)) | (refine tr_y (v := ?_) (a' := ?_) rfl rfl (by rfl) (fun w' hw' => ?_) ?_ ?_; rotate_left 2; (· go_simp; with_reducible rfl); (· simp only [Act.put, zzA, zz0, zzS]; rfl)))
    (first | (refine tr_off (a' := ?_) rfl rfl (by rfl) ?_ ?_; rotate_left 1; (· simp only [Act.put, zzA, zz0, zzS]; rfl)) | (refine tr_y (v := ?_) (a' := ?_) rfl rfl (by rfl) (fun w' hw' => ?_) ?_ ?_; rotate_left 2; (· go_simp; with_reducible rfl); (· simp only [Act.put, zzA, zz0, zzS]; rfl)))
    (first | (refine tr_off (a' := ?_) rfl rfl (by rfl) ?_ ?_; rotate_left 1; (· simp only [Act.put, zzA, zz0, zzS]; rfl)) | (refine tr_y (v := ?_) (a' := ?_) rfl rfl (by rfl) (fun w' hw' => ?_) ?_ ?_; rotate_left 2; (· go_simp; with_reducible rfl); (· simp only [Act.put, zzA, zz0, zzS]; rfl)))
    (first | (refine tr_off (a' := ?_) rfl rfl (by rfl) ?_ ?_; rotate_left 1; (· simp only [Act.put, zzA, zz0, zzS]; rfl)) | (refine tr_y (v := ?_) (a' := ?_) rfl rfl (by rfl) (fun w' hw' => ?_) ?_ ?_; rotate_left 2; (· go_simp; with_reducible rfl); (· simp only [Act.put, zzA, zz0, zzS]; rfl)))
    refine tr_call (args := ?_) rfl Tryz.func63 (by kernel_rfl) rfl (by rfl) rfl rfl ?_ ?_
    rotate_left 1
    · go_simp; rfl
    (with_reducible refine (hr4 _).mono ?_)
    rintro e qa3 ⟨rfl, ea3⟩
    have hYa3 := hYa2.trans ea3
    refine ⟨_, _, rfl, hYa3, (by simp only [Act.put, zzA, zz0, zzS]; rfl), ?_⟩
    refine tr_call (args := ?_) rfl Tryz.func64 (by kernel_rfl) rfl (by rfl) rfl rfl ?_ ?_
    rotate_left 1
    · go_simp; rfl
    (with_reducible refine (pl2 _).mono ?_)
    rintro e qa4 ⟨rfl, ea4⟩
    have hYa4 := hYa3.trans ea4
    refine ⟨_, _, rfl, hYa4, (by simp only [Act.put, zzA, zz0, zzS]; rfl), ?_⟩
    (first | (refine tr_off (a' := ?_) rfl rfl (by rfl) ?_ ?_; rotate_left 1; (· simp only [Act.put, zzA, zz0, zzS]; rfl)) | (refine tr_y (v := ?_) (a' := ?_) rfl rfl (by rfl) (fun w' hw' => ?_) ?_ ?_; rotate_left 2; (· go_simp; with_reducible rfl); (· simp only [Act.put, zzA, zz0, zzS]; rfl)))
    (first | (refine tr_off (a' := ?_) rfl rfl (by rfl) ?_ ?_; rotate_left 1; (· simp only [Act.put, zzA, zz0, zzS]; rfl)) | (refine tr_y (v := ?_) (a' := ?_) rfl rfl (by rfl) (fun w' hw' => ?_) ?_ ?_; rotate_left 2; (· go_simp; with_reducible rfl); (· simp only [Act.put, zzA, zz0, zzS]; rfl)))
    (first | (refine tr_off (a' := ?_) rfl rfl (by rfl) ?_ ?_; rotate_left 1; (· simp only [Act.put, zzA, zz0, zzS]; rfl)) | (refine tr_y (v := ?_) (a' := ?_) rfl rfl (by rfl) (fun w' hw' => ?_) ?_ ?_; rotate_left 2; (· go_simp; with_reducible rfl); (· simp only [Act.put, zzA, zz0, zzS]; rfl)))
    (first | (refine tr_off (a' := ?_) rfl rfl (by rfl) ?_ ?_; rotate_left 1; (· simp only [Act.put, zzA, zz0, zzS]; rfl)) | (refine tr_y (v := ?_) (a' := ?_) rfl rfl (by rfl) (fun w' hw' => ?_) ?_ ?_; rotate_left 2; (· go_simp; with_reducible rfl); (· simp only [Act.put, zzA, zz0, zzS]; rfl)))
    (first | (refine tr_off (a' := ?_) rfl rfl (by rfl) ?_ ?_; rotate_left 1; (· simp only [Act.put, zzA, zz0, zzS]; rfl)) | (refine tr_y (v := ?_) (a' := ?_) rfl rfl (by rfl) (fun w' hw' => ?_) ?_ ?_; rotate_left 2; (· go_simp; with_reducible rfl); (· simp only [Act.put, zzA, zz0, zzS]; rfl)))
    (first | (refine tr_off (a' := ?_) rfl rfl (by rfl) ?_ ?_; rotate_left 1; (· simp only [Act.put, zzA, zz0, zzS]; rfl)) | (refine tr_y (v := ?_) (a' := ?_) rfl rfl (by rfl) (fun w' hw' => ?_) ?_ ?_; rotate_left 2; (· go_simp; with_reducible rfl); (· simp only [Act.put, zzA, zz0, zzS]; rfl)))
    refine tr_call (args := ?_) rfl Tryz.func63 (by kernel_rfl) rfl (by rfl) rfl rfl ?_ ?_
    rotate_left 1
    · go_simp; rfl
    (with_reducible refine (hr5 _).mono ?_)
    rintro e qa5 ⟨rfl, ea5⟩
    have hYa5 := hYa4.trans ea5
    refine ⟨_, _, rfl, hYa5, (by simp only [Act.put, zzA, zz0, zzS]; rfl), ?_⟩
    refine tr_call (args := ?_) rfl Tryz.func64 (by kernel_rfl) rfl (by rfl) rfl rfl ?_ ?_
    rotate_left 1
    · go_simp; rfl
    (with_reducible refine (pl3 _).mono ?_)
    rintro e qa6 ⟨rfl, ea6⟩
    have hYa6 := hYa5.trans ea6
    refine ⟨_, _, rfl, hYa6, (by simp only [Act.put, zzA, zz0, zzS]; rfl), ?_⟩
    (first | (refine tr_off (a' := ?_) rfl rfl (by rfl) ?_ ?_; rotate_left 1; (· simp only [Act.put, zzA, zz0, zzS]; rfl)) | (refine tr_y (v := ?_) (a' := ?_) rfl rfl (by rfl) (fun w' hw' => ?_) ?_ ?_; rotate_left 2; (· go_simp; with_reducible rfl); (· simp only [Act.put, zzA, zz0, zzS]; rfl)))
    (first | (refine tr_off (a' := ?_) rfl rfl (by rfl) ?_ ?_; rotate_left 1; (· simp only [Act.put, zzA, zz0, zzS]; rfl)) | (refine tr_y (v := ?_) (a' := ?_) rfl rfl (by rfl) (fun w' hw' => ?_) ?_ ?_; rotate_left 2; (· go_simp; with_reducible rfl); (· simp only [Act.put, zzA, zz0, zzS]; rfl)))
    (first | (refine tr_off (a' := ?_) rfl rfl (by rfl) ?_ ?_; rotate_left 1; (· simp only [Act.put, zzA, zz0, zzS]; rfl)) | (refine tr_y (v := ?_) (a' := ?_) rfl rfl (by rfl) (fun w' hw' => ?_) ?_ ?_; rotate_left 2; (· go_simp; with_reducible rfl); (· simp only [Act.put, zzA, zz0, zzS]; rfl)))
    (first | (refine tr_off (a' := ?_) rfl rfl (by rfl) ?_ ?_; rotate_left 1; (· simp only [Act.put, zzA, zz0, zzS]; rfl)) | (refine tr_y (v := ?_) (a' := ?_) rfl rfl (by rfl) (fun w' hw' => ?_) ?_ ?_; rotate_left 2; (· go_simp; with_reducible rfl); (· simp only [Act.put, zzA, zz0, zzS]; rfl)))
    (first | (refine tr_off (a' := ?_) rfl rfl (by rfl) ?_ ?_; rotate_left 1; (· simp only [Act.put, zzA, zz0, zzS]; rfl)) | (refine tr_y (v := ?_) (a' := ?_) rfl rfl (by rfl) (fun w' hw' => ?_) ?_ ?_; rotate_left 2; (· go_simp; with_reducible rfl); (· simp only [Act.put, zzA, zz0, zzS]; rfl)))
    (first | (refine tr_off (a' := ?_) rfl rfl (by rfl) ?_ ?_; rotate_left 1; (· simp only [Act.put, zzA, zz0, zzS]; rfl)) | (refine tr_y (v := ?_) (a' := ?_) rfl rfl (by rfl) (fun w' hw' => ?_) ?_ ?_; rotate_left 2; (· go_simp; with_reducible rfl); (· simp only [Act.put, zzA, zz0, zzS]; rfl)))
    (first | (refine tr_off (a' := ?_) rfl rfl (by rfl) ?_ ?_; rotate_left 1; (· simp only [Act.put, zzA, zz0, zzS]; rfl)) | (refine tr_y (v := ?_) (a' := ?_) rfl rfl (by rfl) (fun w' hw' => ?_) ?_ ?_; rotate_left 2; (· go_simp; with_reducible rfl); (· simp only [Act.put, zzA, zz0, zzS]; rfl)))
    (first | (refine tr_off (a' := ?_) rfl rfl (by rfl) ?_ ?_; rotate_left 1; (· simp only [Act.put, zzA, zz0, zzS]; rfl)) | (refine tr_y (v := ?_) (a' := ?_) rfl rfl (by rfl) (fun w' hw' => ?_) ?_ ?_; rotate_left 2; (· go_simp; with_reducible rfl); (· simp only [Act.put, zzA, zz0, zzS]; rfl)))
    (first | (refine tr_off (a' := ?_) rfl rfl (by rfl) ?_ ?_; rotate_left 1; (· simp only [Act.put, zzA, zz0, zzS]; rfl)) | (refine tr_y (v := ?_) (a' := ?_) rfl rfl (by rfl) (fun w' hw' => ?_) ?_ ?_; rotate_left 2; (· go_simp; with_reducible rfl); (· simp only [Act.put, zzA, zz0, zzS]; rfl)))
    (first | (refine tr_off (a' := ?_) rfl rfl (by rfl) ?_ ?_; rotate_left 1; (· simp only [Act.put, zzA, zz0, zzS]; rfl)) | (refine tr_y (v := ?_) (a' := ?_) rfl rfl (by rfl) (fun w' hw' => ?_) ?_ ?_; rotate_left 2; (· go_simp; with_reducible rfl); (· simp only [Act.put, zzA, zz0, zzS]; rfl)))
    (first | (refine tr_off (a' := ?_) rfl rfl (by rfl) ?_ ?_; rotate_left 1; (· simp only [Act.put, zzA, zz0, zzS]; rfl)) | (refine tr_y (v := ?_) (a' := ?_) rfl rfl (by rfl) (fun w' hw' => ?_) ?_ ?_; rotate_left 2; (· go_simp; with_reducible rfl); (· simp only [Act.put, zzA, zz0, zzS]; rfl)))
    (first | (refine tr_off (a' := ?_) rfl rfl (by rfl) ?_ ?_; rotate_left 1; (· simp only [Act.put, zzA, zz0, zzS]; rfl)) | (refine tr_y (v := ?_) (a' := ?_) rfl rfl (by rfl) (fun w' hw' => ?_) ?_ ?_; rotate_left 2; (· go_simp; with_reducible rfl); (· simp only [Act.put, zzA, zz0, zzS]; rfl)))
    (first | (refine tr_off (a' := ?_) rfl rfl (by rfl) ?_ ?_; rotate_left 1; (· simp only [Act.put, zzA, zz0, zzS]; rfl)) | (refine tr_y (v := ?_) (a' := ?_) rfl rfl (by rfl) (fun w' hw' => ?_) ?_ ?_; rotate_left 2; (· go_simp; with_reducible rfl); (· simp only [Act.put, zzA, zz0, zzS]; rfl)))
    (first | (refine tr_off (a' := ?_) rfl rfl (by rfl) ?_ ?_; rotate_left 1; (· simp only [Act.put, zzA, zz0, zzS]; rfl)) | (refine tr_y (v := ?_) (a' := ?_) rfl rfl (by rfl) (fun w' hw' => ?_) ?_ ?_; rotate_left 2; (· go_simp; with_reducible rfl); (· simp only [Act.put, zzA, zz0, zzS]; rfl)))
    (first | (refine tr_off (a' := ?_) rfl rfl (by rfl) ?_ ?_; rotate_left 1; (· simp only [Act.put, zzA, zz0, zzS]; rfl)) | (refine tr_y (v := ?_) (a' := ?_) rfl rfl (by rfl) (fun w' hw' => ?_) ?_ ?_; rotate_left 2; (· go_simp; with_reducible rfl); (· simp only [Act.put, zzA, zz0, zzS]; rfl)))
    (first | (refine tr_off (a' := ?_) rfl rfl (by rfl) ?_ ?_; rotate_left 1; (· simp only [Act.put, zzA, zz0, zzS]; rfl)) | (refine tr_y (v := ?_) (a' := ?_) rfl rfl (by rfl) (fun w' hw' => ?_) ?_ ?_; rotate_left 2; (· go_simp; with_reducible rfl); (· simp only [Act.put, zzA, zz0, zzS]; rfl)))
    (first | (refine tr_off (a' := ?_) rfl rfl (by rfl) ?_ ?_; rotate_left 1; (· simp only [Act.put, zzA, zz0, zzS]; rfl)) | (refine tr_y (v := ?_) (a' := ?_) rfl rfl (by rfl) (fun w' hw' => ?_) ?_ ?_; rotate_left 2; (· go_simp; with_reducible rfl); (· simp only [Act.put, zzA, zz0, zzS]; rfl)))
    (first | (refine tr_off (a' := ?_) rfl rfl (by rfl) ?_ ?_; rotate_left 1; (· simp only [Act.put, zzA, zz0, zzS]; rfl)) | (refine tr_y (v := ?_) (a' := ?_) rfl rfl (by rfl) (fun w' hw' => ?_) ?_ ?_; rotate_left 2; (· go_simp; with_reducible rfl); (· simp only [Act.put, zzA, zz0, zzS]; rfl)))
    (first | (refine tr_off (a' := ?_) rfl rfl (by rfl) ?_ ?_; rotate_left 1; (· simp only [Act.put, zzA, zz0, zzS]; rfl)) | (refine tr_y (v := ?_) (a' := ?_) rfl rfl (by rfl) (fun w' hw' => ?_) ?_ ?_; rotate_left 2; (· go_simp; with_reducible rfl); (· simp only [Act.put, zzA, zz0, zzS]; rfl)))
    (first | (refine tr_off (a' := ?_) rfl rfl (by rfl) ?_ ?_; rotate_left 1; (· simp only [Act.put, zzA, zz0, zzS]; rfl)) | (refine tr_y (v := ?_) (a' := ?_) rfl rfl (by rfl) (fun w' hw' => ?_) ?_ ?_; rotate_left 2; (· go_simp; with_reducible rfl); (· simp only [Act.put, zzA, zz0, zzS]; rfl)))
    refine tr_end ?_
    refine NoPanic.normal ?_
    go_wp2_with fail
    go_ret
    exact ⟨ret_int (by rw [HC.out]; simp [*]), hE.trans hYa6⟩
  cases o4
  rotate_left 1
  · refine wp_region_noPanic ?_
    refine tr_start (.y 0 (.y 2 (.y 3 (.e 1 (.e 4 (.y 5 (.y 6 (.y 7 (.y 9 (.y 10 (.e 8 (.e 11 (.y 12 (.y 13 (.y 14 (.y 15 (.y 17 (.y 18 (.e 16 (.e 19 (.y 20 (.y 21 (.y 22 (.y 23 (.y 25 (.y 26 (.e 24 (.e 27 (.y 28 (.y 29 (.y 30 (.y 31 (.y 32 (.y 33 (.y 34 (.y 35 (.y 36 (.y 37 (.y 38 (.y 39 .nil)))))))))))))))))))))))))))))))))))))))) (fun w' => Ext W w') (by kernel_rfl) (by as_aux_lemma => kernel_rfl) (fun _ _ _ _ _ h => h) (by (repeat (first | assumption | exact Ext.refl _ | refine Ext.drew ?_ | refine Ext.alloc ?_ _ | refine Ext.drewN ?_ _ | refine Ext.trans ?_ (by assumption)))) ?_
    have ea0 : Ext q4 q4.drew := (Ext.refl _).drew
    generalize q4.drew = qa0 at ea0 ⊢
    have hYa0 := hY4.trans ea0
    (first | (refine tr_off (a' := ?_) rfl rfl (by rfl) ?_ ?_; rotate_left 1; (· simp only [Act.put, zzA, zz0, zzS]; rfl)) | (refine tr_y (v := ?_) (a' := ?_) rfl rfl (by rfl) (fun w' hw' => ?_) ?_ ?_; rotate_left 2; (· go_simp; with_reducible rfl); (· simp only [Act.put, zzA, zz0, zzS]; rfl)))
    (first | (refine tr_off (a' := ?_) rfl rfl (by rfl) ?_ ?_; rotate_left 1; (· simp only [Act.put, zzA, zz0, zzS]; rfl)) | (refine tr_y (v := ?_) (a' := ?_) rfl rfl (by rfl) (fun w' hw' => ?_) ?_ ?_; rotate_left 2; (· go_simp; with_reducible rfl); (· simp only [Act.put, zzA, zz0, zzS]; rfl)))
    (first | (refine tr_off (a' := ?_) rfl rfl (by rfl) ?_ ?_; rotate_left 1; (· simp only [Act.put, zzA, zz0, zzS]; rfl)) | (refine tr_y (v := ?_) (a' := ?_) rfl rfl (by rfl) (fun w' hw' => ?_) ?_ ?_; rotate_left 2; (· go_simp; with_reducible rfl); (· simp only [Act.put, zzA, zz0, zzS]; rfl)))
    refine tr_call (args := ?_) rfl Tryz.func63 (by kernel_rfl) rfl (by rfl) rfl rfl ?_ ?_
    rotate_left 1
    · go_simp; rfl
    (with_reducible refine (hr2 _).mono ?_)
    rintro e qa1 ⟨rfl, ea1⟩
    have hYa1 := hYa0.trans ea1
    refine ⟨_, _, rfl, hYa1, (by simp only [Act.put, zzA, zz0, zzS]; rfl), ?_⟩
    refine tr_call (args := ?_) rfl Tryz.func64 (by kernel_rfl) rfl (by rfl) rfl rfl ?_ ?_
    rotate_left 1
    · go_simp; rfl
    (with_reducible refine (pl1 _).mono ?_)
    rintro e qa2 ⟨rfl, ea2⟩
    have hYa2 := hYa1.trans ea2
    refine ⟨_, _, rfl, hYa2, (by simp only [Act.put, zzA, zz0, zzS]; rfl), ?_⟩
    (first | (refine tr_off (a' := ?_) rfl rfl (by rfl) ?_ ?_; rotate_left 1; (· simp only [Act.put, zzA, zz0, zzS]; rfl)) | (refine tr_y (v := ?_) (a' := ?_) rfl rfl (by rfl) (fun w' hw' => ?_) ?_ ?_; rotate_left 2; (· go_simp; with_reducible rfl); (· simp only [Act.put, zzA, zz0, zzS]; rfl)))
    (first | (refine tr_off (a' := ?_) rfl rfl (by rfl) ?_ ?_; rotate_left 1; (· simp only [Act.put, zzA, zz0, zzS]; rfl)) | (refine tr_y (v := ?_) (a' := ?_) rfl rfl (by rfl) (fun w' hw' => ?_) ?_ ?_; rotate_left 2; (· go_simp; with_reducible rfl); (· simp only [Act.put, zzA, zz0, zzS]; rfl)))
    (first | (refine tr_off (a' := ?_) rfl rfl (by rfl) ?_ ?_; rotate_left 1; (· simp only [Act.put, zzA, zz0, zzS]; rfl)) | (refine tr_y (v := ?_) (a' := ?_) rfl rfl (by rfl) (fun w' hw' => ?_) ?_ ?_; rotate_left 2; (· go_simp; with_reducible rfl); (· simp only [Act.put, zzA, zz0, zzS]; rfl)))
    (first | (refine tr_off (a' := ?_) rfl rfl (by rfl) ?_ ?_; rotate_left 1; (· simp only [Act.put, zzA, zz0, zzS]; rfl)) | (refine tr_y (v := ?_) (a' := ?_) rfl rfl (by rfl) (fun w' hw' => ?_) ?_ ?_; rotate_left 2; (· go_simp; with_reducible rfl); (· simp only [Act.put, zzA, zz0, zzS]; rfl)))
    (first | (refine tr_off (a' := ?_) rfl rfl (by rfl) ?_ ?_; rotate_left 1; (· simp only [Act.put, zzA, zz0, zzS]; rfl)) | (refine tr_y (v := ?_) (a' := ?_) rfl rfl (by rfl) (fun w' hw' => ?_) ?_ ?_; rotate_left 2; (· go_simp; with_reducible rfl); (· simp only [Act.put, zzA, zz0, zzS]; rfl)))
    refine tr_call (args := ?_) rfl Tryz.func63 (by kernel_rfl) rfl (by rfl) rfl rfl ?_ ?_
    rotate_left 1
    · go_simp; rfl
    (with_reducible refine (hr4 _).mono ?_)
    rintro e qa3 ⟨rfl, ea3⟩
    have hYa3 := hYa2.trans ea3
    refine ⟨_, _, rfl, hYa3, (by simp only [Act.put, zzA, zz0, zzS]; rfl), ?_⟩
    refine tr_call (args := ?_) rfl Tryz.func64 (by kernel_rfl) rfl (by rfl) rfl rfl ?_ ?_
    rotate_left 1
    · go_simp; rfl
    (with_reducible refine (pl2 _).mono ?_)
    rintro e qa4 ⟨rfl, ea4⟩
    have hYa4 := hYa3.trans ea4
    refine ⟨_, _, rfl, hYa4, (by simp only [Act.put, zzA, zz0, zzS]; rfl), ?_⟩
    (first | (refine tr_off (a' := ?_) rfl rfl (by rfl) ?_ ?_; rotate_left 1; (· simp only [Act.put, zzA, zz0, zzS]; rfl)) | (refine tr_y (v := ?_) (a' := ?_) rfl rfl (by rfl) (fun w' hw' => ?_) ?_ ?_; rotate_left 2; (· go_simp; with_reducible rfl); (· simp only [Act.put, zzA, zz0, zzS]; rfl)))
    (first | (refine tr_off (a' := ?_) rfl rfl (by rfl) ?_ ?_; rotate_left 1; (· simp only [Act.put, zzA, zz0, zzS]; rfl)) | (refine tr_y (v := ?_) (a' := ?_) rfl rfl (by rfl) (fun w' hw' => ?_) ?_ ?_; rotate_left 2; (· go_simp; with_reducible rfl); (· simp only [Act.put, zzA, zz0, zzS]; rfl)))
    (first | (refine tr_off (a' := ?_) rfl rfl (by rfl) ?_ ?_; rotate_left 1; (· simp only [Act.put, zzA, zz0, zzS]; rfl)) | (refine tr_y (v := ?_) (a' := ?_) rfl rfl (by rfl) (fun w' hw' => ?_) ?_ ?_; rotate_left 2; (· go_simp; with_reducible rfl); (· simp only [Act.put, zzA, zz0, zzS]; rfl)))
    (first | (refine tr_off (a' := ?_) rfl rfl (by rfl) ?_ ?_; rotate_left 1; (· simp only [Act.put, zzA, zz0, zzS]; rfl)) | (refine tr_y (v := ?_) (a' := ?_) rfl rfl (by rfl) (fun w' hw' => ?_) ?_ ?_; rotate_left 2; (· go_simp; with_reducible rfl); (· simp only [Act.put, zzA, zz0, zzS]; rfl)))
    (first | (refine tr_off (a' := ?_) rfl rfl (by rfl) ?_ ?_; rotate_left 1; (· simp only [Act.put, zzA, zz0, zzS]; rfl)) | (refine tr_y (v := ?_) (a' := ?_) rfl rfl (by rfl) (fun w' hw' => ?_) ?_ ?_; rotate_left 2; (· go_simp; with_reducible rfl); (· simp only [Act.put, zzA, zz0, zzS]; rfl)))
    (first | (refine tr_off (a' := ?_) rfl rfl (by rfl) ?_ ?_; rotate_left 1; (· simp only [Act.put, zzA, zz0, zzS]; rfl)) | (refine tr_y (v := ?_) (a' := ?_) rfl rfl (by rfl) (fun w' hw' => ?_) ?_ ?_; rotate_left 2; (· go_simp; with_reducible rfl); (· simp only [Act.put, zzA, zz0, zzS]; rfl)))
    refine tr_call (args := ?_) rfl Tryz.func63 (by kernel_rfl) rfl (by rfl) rfl rfl ?_ ?_
    rotate_left 1
    · go_simp; rfl
    (with_reducible refine (hr5 _).mono ?_)
    rintro e qa5 ⟨rfl, ea5⟩
    have hYa5 := hYa4.trans ea5
    refine ⟨_, _, rfl, hYa5, (by simp only [Act.put, zzA, zz0, zzS]; rfl), ?_⟩
    refine tr_call (args := ?_) rfl Tryz.func64 (by kernel_rfl) rfl (by rfl) rfl rfl ?_ ?_
    rotate_left 1
    · go_simp; rfl
    (with_reducible refine (pl3 _).mono ?_)
    rintro e qa6 ⟨rfl, ea6⟩
    have hYa6 := hYa5.trans ea6
    refine ⟨_, _, rfl, hYa6, (by simp only [Act.put, zzA, zz0, zzS]; rfl), ?_⟩
    (first | (refine tr_off (a' := ?_) rfl rfl (by rfl) ?_ ?_; rotate_left 1; (· simp only [Act.put, zzA, zz0, zzS]; rfl)) | (refine tr_y (v := ?_) (a' := ?_) rfl rfl (by rfl) (fun w' hw' => ?_) ?_ ?_; rotate_left 2; (· go_simp; with_reducible rfl); (· simp only [Act.put, zzA, zz0, zzS]; rfl)))
    (first | (refine tr_off (a' := ?_) rfl rfl (by rfl) ?_ ?_; rotate_left 1; (· simp only [Act.put, zzA, zz0, zzS]; rfl)) | (refine tr_y (v := ?_) (a' := ?_) rfl rfl (by rfl) (fun w' hw' => ?_) ?_ ?_; rotate_left 2; (· go_simp; with_reducible rfl); (· simp only [Act.put, zzA, zz0, zzS]; rfl)))
    (first | (refine tr_off (a' := ?_) rfl rfl (by rfl) ?_ ?_; rotate_left 1; (· simp only [Act.put, zzA, zz0, zzS]; rfl)) | (refine tr_y (v := ?_) (a' := ?_) rfl rfl (by rfl) (fun w' hw' => ?_) ?_ ?_; rotate_left 2; (· go_simp; with_reducible rfl); (· simp only [Act.put, zzA, zz0, zzS]; rfl)))
    (first | (refine tr_off (a' := ?_) rfl rfl (by rfl) ?_ ?_; rotate_left 1; (· simp only [Act.put, zzA, zz0, zzS]; rfl)) | (refine tr_y (v := ?_) (a' := ?_) rfl rfl (by rfl) (fun w' hw' => ?_) ?_ ?_; rotate_left 2; (· go_simp; with_reducible rfl); (· simp only [Act.put, zzA, zz0, zzS]; rfl)))
    (first | (refine tr_off (a' := ?_) rfl rfl (by rfl) ?_ ?_; rotate_left 1; (· simp only [Act.put, zzA, zz0, zzS]; rfl)) | (refine tr_y (v := ?_) (a' := ?_) rfl rfl (by rfl) (fun w' hw' => ?_) ?_ ?_; rotate_left 2; (· go_simp; with_reducible rfl); (· simp only [Act.put, zzA, zz0, zzS]; rfl)))
    (first | (refine tr_off (a' := ?_) rfl rfl (by rfl) ?_ ?_; rotate_left 1; (· simp only [Act.put, zzA, zz0, zzS]; rfl)) | (refine tr_y (v := ?_) (a' := ?_) rfl rfl (by rfl) (fun w' hw' => ?_) ?_ ?_; rotate_left 2; (· go_simp; with_reducible rfl); (· simp only [Act.put, zzA, zz0, zzS]; rfl)))
    refine tr_call (args := ?_) rfl Tryz.func63 (by kernel_rfl) rfl (by rfl) rfl rfl ?_ ?_
    rotate_left 1
    · go_simp; rfl
    (with_reducible refine (hr7 _).mono ?_)
    rintro e qa7 ⟨rfl, ea7⟩
    have hYa7 := hYa6.trans ea7
    refine ⟨_, _, rfl, hYa7, (by simp only [Act.put, zzA, zz0, zzS]; rfl), ?_⟩
    refine tr_call (args := ?_) rfl Tryz.func64 (by kernel_rfl) rfl (by rfl) rfl rfl ?_ ?_
    rotate_left 1
    · go_simp; rfl
    (with_reducible refine (pl4 _).mono ?_)
    rintro e qa8 ⟨rfl, ea8⟩
    have hYa8 := hYa7.trans ea8
    refine ⟨_, _, rfl, hYa8, (by simp only [Act.put, zzA, zz0, zzS]; rfl), ?_⟩
    (first | (refine tr_off (a' := ?_) rfl rfl (by rfl) ?_ ?_; rotate_left 1; (· simp only [Act.put, zzA, zz0, zzS]; rfl)) | (refine tr_y (v := ?_) (a' := ?_) rfl rfl (by rfl) (fun w' hw' => ?_) ?_ ?_; rotate_left 2; (· go_simp; with_reducible rfl); (· simp only [Act.put, zzA, zz0, zzS]; rfl)))
    (first | (refine tr_off (a' := ?_) rfl rfl (by rfl) ?_ ?_; rotate_left 1; (· simp only [Act.put, zzA, zz0, zzS]; rfl)) | (refine tr_y (v := ?_) (a' := ?_) rfl rfl (by rfl) (fun w' hw' => ?_) ?_ ?_; rotate_left 2; (· go_simp; with_reducible rfl); (· simp only [Act.put, zzA, zz0, zzS]; rfl)))
    (first | (refine tr_off (a' := ?_) rfl rfl (by rfl) ?_ ?_; rotate_left 1; (· simp only [Act.put, zzA, zz0, zzS]; rfl)) | (refine tr_y (v := ?_) (a' := ?_) rfl rfl (by rfl) (fun w' hw' => ?_) ?_ ?_; rotate_left 2; (· go_simp; with_reducible rfl); (· simp only [Act.put, zzA, zz0, zzS]; rfl)))
    (first | (refine tr_off (a' := ?_) rfl rfl (by rfl) ?_ ?_; rotate_left 1; (· simp only [Act.put, zzA, zz0, zzS]; rfl)) | (refine tr_y (v := ?_) (a' := ?_) rfl rfl (by rfl) (fun w' hw' => ?_) ?_ ?_; rotate_left 2; (· go_simp; with_reducible rfl); (· simp only [Act.put, zzA, zz0, zzS]; rfl)))
    (first | (refine tr_off (a' := ?_) rfl rfl (by rfl) ?_ ?_; rotate_left 1; (· simp only [Act.put, zzA, zz0, zzS]; rfl)) | (refine tr_y (v := ?_) (a' := ?_) rfl rfl (by rfl) (fun w' hw' => ?_) ?_ ?_; rotate_left 2; (· go_simp; with_reducible rfl); (· simp only [Act.put, zzA, zz0, zzS]; rfl)))
    (first | (refine tr_off (a' := ?_) rfl rfl (by rfl) ?_ ?_; rotate_left 1; (· simp only [Act.put, zzA, zz0, zzS]; rfl)) | (refine tr_y (v := ?_) (a' := ?_) rfl rfl (by rfl) (fun w' hw' => ?_) ?_ ?_; rotate_left 2; (· go_simp; with_reducible rfl); (· simp only [Act.put, zzA, zz0, zzS]; rfl)))
    (first | (refine tr_off (a' := ?_) rfl rfl (by rfl) ?_ ?_; rotate_left 1; (· simp only [Act.put, zzA, zz0, zzS]; rfl)) | (refine tr_y (v := ?_) (a' := ?_) rfl rfl (by rfl) (fun w' hw' => ?_) ?_ ?_; rotate_left 2; (· go_simp; with_reducible rfl); (· simp only [Act.put, zzA, zz0, zzS]; rfl)))
    (first | (refine tr_off (a' := ?_) rfl rfl (by rfl) ?_ ?_; rotate_left 1; (· simp only [Act.put, zzA, zz0, zzS]; rfl)) | (refine tr_y (v := ?_) (a' := ?_) rfl rfl (by rfl) (fun w' hw' => ?_) ?_ ?_; rotate_left 2; (· go_simp; with_reducible rfl); (· simp only [Act.put, zzA, zz0, zzS]; rfl)))
    (first | (refine tr_off (a' := ?_) rfl rfl (by rfl) ?_ ?_; rotate_left 1; (· simp only [Act.put, zzA, zz0, zzS]; rfl)) | (refine tr_y (v := ?_) (a' := ?_) rfl rfl (by rfl) (fun w' hw' => ?_) ?_ ?_; rotate_left 2; (· go_simp; with_reducible rfl); (· simp only [Act.put, zzA, zz0, zzS]; rfl)))
    (first | (refine tr_off (a' := ?_) rfl rfl (by rfl) ?_ ?_; rotate_left 1; (· simp only [Act.put, zzA, zz0, zzS]; rfl)) | (refine tr_y (v := ?_) (a' := ?_) rfl rfl (by rfl) (fun w' hw' => ?_) ?_ ?_; rotate_left 2; (· go_simp; with_reducible rfl); (· simp only [Act.put, zzA, zz0, zzS]; rfl)))
    (first | (refine tr_off (a' := ?_) rfl rfl (by rfl) ?_ ?_; rotate_left 1; (· simp only [Act.put, zzA, zz0, zzS]; rfl)) | (refine tr_y (v := ?_) (a' := ?_) rfl rfl (by rfl) (fun w' hw' => ?_) ?_ ?_; rotate_left 2; (· go_simp; with_reducible rfl); (· simp only [Act.put, zzA, zz0, zzS]; rfl)))
    (first | (refine tr_off (a' := ?_) rfl rfl (by rfl) ?_ ?_; rotate_left 1; (· simp only [Act.put, zzA, zz0, zzS]; rfl)) | (refine tr_y (v := ?_) (a' := ?_) rfl rfl (by rfl) (fun w' hw' => ?_) ?_ ?_; rotate_left 2; (· go_simp; with_reducible rfl); (· simp only [Act.put, zzA, zz0, zzS]; rfl)))
    refine tr_end ?_
    refine NoPanic.normal ?_
    go_wp2_with fail
    go_ret
    exact ⟨ret_int (by rw [HC.out]; simp [*]), hE.trans hYa8⟩
  have HM0 := HM
  cases f3
  · refine wp_region_noPanic ?_
    refine tr_start (.y 0 (.y 2 (.y 3 (.e 1 (.e 4 (.y 5 (.y 6 (.y 7 (.y 9 (.y 10 (.e 8 (.e 11 (.y 12 (.y 13 (.y 14 (.y 15 (.y 17 (.y 18 (.e 16 (.e 19 (.y 20 (.y 21 (.y 22 (.y 23 (.y 25 (.y 26 (.e 24 (.e 27 (.y 28 (.y 29 (.y 30 (.y 31 (.e 32 (.y 33 (.y 34 (.y 35 (.y 36 (.y 37 (.y 38 (.y 39 .nil)))))))))))))))))))))))))))))))))))))))) (fun w' => Ext W w') (by kernel_rfl) (by as_aux_lemma => kernel_rfl) (fun _ _ _ _ _ h => h) (by (repeat (first | assumption | exact Ext.refl _ | refine Ext.drew ?_ | refine Ext.alloc ?_ _ | refine Ext.drewN ?_ _ | refine Ext.trans ?_ (by assumption)))) ?_
    have ea0 : Ext q4 q4.drew := (Ext.refl _).drew
    generalize q4.drew = qa0 at ea0 ⊢
    have hYa0 := hY4.trans ea0
    (first | (refine tr_off (a' := ?_) rfl rfl (by rfl) ?_ ?_; rotate_left 1; (· simp only [Act.put, zzA, zz0, zzS]; rfl)) | (refine tr_y (v := ?_) (a' := ?_) rfl rfl (by rfl) (fun w' hw' => ?_) ?_ ?_; rotate_left 2; (· go_simp; with_reducible rfl); (· simp only [Act.put, zzA, zz0, zzS]; rfl)))
    (first | (refine tr_off (a' := ?_) rfl rfl (by rfl) ?_ ?_; rotate_left 1; (· simp only [Act.put, zzA, zz0, zzS]; rfl)) | (refine tr_y (v := ?_) (a' := ?_) rfl rfl (by rfl) (fun w' hw' => ?_) ?_ ?_; rotate_left 2; (· go_simp; with_reducible rfl); (· simp only [Act.put, zzA, zz0, zzS]; rfl)))
    (first | (refine tr_off (a' := ?_) rfl rfl (by rfl) ?_ ?_; rotate_left 1; (· simp only [Act.put, zzA, zz0, zzS]; rfl)) | (refine tr_y (v := ?_) (a' := ?_) rfl rfl (by rfl) (fun w' hw' => ?_) ?_ ?_; rotate_left 2; (· go_simp; with_reducible rfl); (· simp only [Act.put, zzA, zz0, zzS]; rfl)))
    refine tr_call (args := ?_) rfl Tryz.func63 (by kernel_rfl) rfl (by rfl) rfl rfl ?_ ?_
    rotate_left 1
    · go_simp; rfl
    (with_reducible refine (hr2 _).mono ?_)
    rintro e qa1 ⟨rfl, ea1⟩
    have hYa1 := hYa0.trans ea1
    refine ⟨_, _, rfl, hYa1, (by simp only [Act.put, zzA, zz0, zzS]; rfl), ?_⟩
    refine tr_call (args := ?_) rfl Tryz.func64 (by kernel_rfl) rfl (by rfl) rfl rfl ?_ ?_
    rotate_left 1
    · go_simp; rfl
    (with_reducible refine (pl1 _).mono ?_)
    rintro e qa2 ⟨rfl, ea2⟩
    have hYa2 := hYa1.trans ea2
    refine ⟨_, _, rfl, hYa2, (by simp only [Act.put, zzA, zz0, zzS]; rfl), ?_⟩
    (first | (refine tr_off (a' := ?_) rfl rfl (by rfl) ?_ ?_; rotate_left 1; (· simp only [Act.put, zzA, zz0, zzS]; rfl)) | (refine tr_y (v := ?_) (a' := ?_) rfl rfl (by rfl) (fun w' hw' => ?_) ?_ ?_; rotate_left 2; (· go_simp; with_reducible rfl); (· simp only [Act.put, zzA, zz0, zzS]; rfl)))
    (first | (refine tr_off (a' := ?_) rfl rfl (by rfl) ?_ ?_; rotate_left 1; (· simp only [Act.put, zzA, zz0, zzS]; rfl)) | (refine tr_y (v := ?_) (a' := ?_) rfl rfl (by rfl) (fun w' hw' => ?_) ?_ ?_; rotate_left 2; (· go_simp; with_reducible rfl); (· simp only [Act.put, zzA, zz0, zzS]; rfl)))
    (first | (refine tr_off (a' := ?_) rfl rfl (by rfl) ?_ ?_; rotate_left 1; (· simp only [Act.put, zzA, zz0, zzS]; rfl)) | (refine tr_y (v := ?_) (a' := ?_) rfl rfl (by rfl) (fun w' hw' => ?_) ?_ ?_; rotate_left 2; (· go_simp; with_reducible rfl); (· simp only [Act.put, zzA, zz0, zzS]; rfl)))
    (first | (refine tr_off (a' := ?_) rfl rfl (by rfl) ?_ ?_; rotate_left 1; (· simp only [Act.put, zzA, zz0, zzS]; rfl)) | (refine tr_y (v := ?_) (a' := ?_) rfl rfl (by rfl) (fun w' hw' => ?_) ?_ ?_; rotate_left 2; (· go_simp; with_reducible rfl); (· simp only [Act.put, zzA, zz0, zzS]; rfl)))
    (first | (refine tr_off (a' := ?_) rfl rfl (by rfl) ?_ ?_; rotate_left 1; (· simp only [Act.put, zzA, zz0, zzS]; rfl)) | (refine tr_y (v := ?_) (a' := ?_) rfl rfl (by rfl) (fun w' hw' => ?_) ?_ ?_; rotate_left 2; (· go_simp; with_reducible rfl); (· simp only [Act.put, zzA, zz0, zzS]; rfl)))
    refine tr_call (args := ?_) rfl Tryz.func63 (by kernel_rfl) rfl (by rfl) rfl rfl ?_ ?_
    rotate_left 1
    · go_simp; rfl
    (with_reducible refine (hr4 _).mono ?_)
    rintro e qa3 ⟨rfl, ea3⟩
    have hYa3 := hYa2.trans ea3
    refine ⟨_, _, rfl, hYa3, (by simp only [Act.put, zzA, zz0, zzS]; rfl), ?_⟩
    refine tr_call (args := ?_) rfl Tryz.func64 (by kernel_rfl) rfl (by rfl) rfl rfl ?_ ?_
    rotate_left 1
    · go_simp; rfl
    (with_reducible refine (pl2 _).mono ?_)
    rintro e qa4 ⟨rfl, ea4⟩
    have hYa4 := hYa3.trans ea4
    refine ⟨_, _, rfl, hYa4, (by simp only [Act.put, zzA, zz0, zzS]; rfl), ?_⟩
    (first | (refine tr_off (a' := ?_) rfl rfl (by rfl) ?_ ?_; rotate_left 1; (· simp only [Act.put, zzA, zz0, zzS]; rfl)) | (refine tr_y (v := ?_) (a' := ?_) rfl rfl (by rfl) (fun w' hw' => ?_) ?_ ?_; rotate_left 2; (· go_simp; with_reducible rfl); (· simp only [Act.put, zzA, zz0, zzS]; rfl)))
    (first | (refine tr_off (a' := ?_) rfl rfl (by rfl) ?_ ?_; rotate_left 1; (· simp only [Act.put, zzA, zz0, zzS]; rfl)) | (refine tr_y (v := ?_) (a' := ?_) rfl rfl (by rfl) (fun w' hw' => ?_) ?_ ?_; rotate_left 2; (· go_simp; with_reducible rfl); (· simp only [Act.put, zzA, zz0, zzS]; rfl)))
    (first | (refine tr_off (a' := ?_) rfl rfl (by rfl) ?_ ?_; rotate_left 1; (· simp only [Act.put, zzA, zz0, zzS]; rfl)) | (refine tr_y (v := ?_) (a' := ?_) rfl rfl (by rfl) (fun w' hw' => ?_) ?_ ?_; rotate_left 2; (· go_simp; with_reducible rfl); (· simp only [Act.put, zzA, zz0, zzS]; rfl)))
    (first | (refine tr_off (a' := ?_) rfl rfl (by rfl) ?_ ?_; rotate_left 1; (· simp only [Act.put, zzA, zz0, zzS]; rfl)) | (refine tr_y (v := ?_) (a' := ?_) rfl rfl (by rfl) (fun w' hw' => ?_) ?_ ?_; rotate_left 2; (· go_simp; with_reducible rfl); (· simp only [Act.put, zzA, zz0, zzS]; rfl)))
    (first | (refine tr_off (a' := ?_) rfl rfl (by rfl) ?_ ?_; rotate_left 1; (· simp only [Act.put, zzA, zz0, zzS]; rfl)) | (refine tr_y (v := ?_) (a' := ?_) rfl rfl (by rfl) (fun w' hw' => ?_) ?_ ?_; rotate_left 2; (· go_simp; with_reducible rfl); (· simp only [Act.put, zzA, zz0, zzS]; rfl)))
    (first | (refine tr_off (a' := ?_) rfl rfl (by rfl) ?_ ?_; rotate_left 1; (· simp only [Act.put, zzA, zz0, zzS]; rfl)) | (refine tr_y (v := ?_) (a' := ?_) rfl rfl (by rfl) (fun w' hw' => ?_) ?_ ?_; rotate_left 2; (· go_simp; with_reducible rfl); (· simp only [Act.put, zzA, zz0, zzS]; rfl)))
    refine tr_call (args := ?_) rfl Tryz.func63 (by kernel_rfl) rfl (by rfl) rfl rfl ?_ ?_
    rotate_left 1
    · go_simp; rfl
    (with_reducible refine (hr5 _).mono ?_)
    rintro e qa5 ⟨rfl, ea5⟩
    have hYa5 := hYa4.trans ea5
    refine ⟨_, _, rfl, hYa5, (by simp only [Act.put, zzA, zz0, zzS]; rfl), ?_⟩
    refine tr_call (args := ?_) rfl Tryz.func64 (by kernel_rfl) rfl (by rfl) rfl rfl ?_ ?_
    rotate_left 1
    · go_simp; rfl
    (with_reducible refine (pl3 _).mono ?_)
    rintro e qa6 ⟨rfl, ea6⟩
    have hYa6 := hYa5.trans ea6
    refine ⟨_, _, rfl, hYa6, (by simp only [Act.put, zzA, zz0, zzS]; rfl), ?_⟩
    (first | (refine tr_off (a' := ?_) rfl rfl (by rfl) ?_ ?_; rotate_left 1; (· simp only [Act.put, zzA, zz0, zzS]; rfl)) | (refine tr_y (v := ?_) (a' := ?_) rfl rfl (by rfl) (fun w' hw' => ?_) ?_ ?_; rotate_left 2; (· go_simp; with_reducible rfl); (· simp only [Act.put, zzA, zz0, zzS]; rfl)))
    (first | (refine tr_off (a' := ?_) rfl rfl (by rfl) ?_ ?_; rotate_left 1; (· simp only [Act.put, zzA, zz0, zzS]; rfl)) | (refine tr_y (v := ?_) (a' := ?_) rfl rfl (by rfl) (fun w' hw' => ?_) ?_ ?_; rotate_left 2; (· go_simp; with_reducible rfl); (· simp only [Act.put, zzA, zz0, zzS]; rfl)))
    (first | (refine tr_off (a' := ?_) rfl rfl (by rfl) ?_ ?_; rotate_left 1; (· simp only [Act.put, zzA, zz0, zzS]; rfl)) | (refine tr_y (v := ?_) (a' := ?_) rfl rfl (by rfl) (fun w' hw' => ?_) ?_ ?_; rotate_left 2; (· go_simp; with_reducible rfl); (· simp only [Act.put, zzA, zz0, zzS]; rfl)))
    (first | (refine tr_off (a' := ?_) rfl rfl (by rfl) ?_ ?_; rotate_left 1; (· simp only [Act.put, zzA, zz0, zzS]; rfl)) | (refine tr_y (v := ?_) (a' := ?_) rfl rfl (by rfl) (fun w' hw' => ?_) ?_ ?_; rotate_left 2; (· go_simp; with_reducible rfl); (· simp only [Act.put, zzA, zz0, zzS]; rfl)))
    (first | (refine tr_off (a' := ?_) rfl rfl (by rfl) ?_ ?_; rotate_left 1; (· simp only [Act.put, zzA, zz0, zzS]; rfl)) | (refine tr_y (v := ?_) (a' := ?_) rfl rfl (by rfl) (fun w' hw' => ?_) ?_ ?_; rotate_left 2; (· go_simp; with_reducible rfl); (· simp only [Act.put, zzA, zz0, zzS]; rfl)))
    (first | (refine tr_off (a' := ?_) rfl rfl (by rfl) ?_ ?_; rotate_left 1; (· simp only [Act.put, zzA, zz0, zzS]; rfl)) | (refine tr_y (v := ?_) (a' := ?_) rfl rfl (by rfl) (fun w' hw' => ?_) ?_ ?_; rotate_left 2; (· go_simp; with_reducible rfl); (· simp only [Act.put, zzA, zz0, zzS]; rfl)))
    refine tr_call (args := ?_) rfl Tryz.func63 (by kernel_rfl) rfl (by rfl) rfl rfl ?_ ?_
    rotate_left 1
    · go_simp; rfl
    (with_reducible refine (hr7 _).mono ?_)
    rintro e qa7 ⟨rfl, ea7⟩
    have hYa7 := hYa6.trans ea7
    refine ⟨_, _, rfl, hYa7, (by simp only [Act.put, zzA, zz0, zzS]; rfl), ?_⟩
    refine tr_call (args := ?_) rfl Tryz.func64 (by kernel_rfl) rfl (by rfl) rfl rfl ?_ ?_
    rotate_left 1
    · go_simp; rfl
    (with_reducible refine (pl4 _).mono ?_)
    rintro e qa8 ⟨rfl, ea8⟩
    have hYa8 := hYa7.trans ea8
    refine ⟨_, _, rfl, hYa8, (by simp only [Act.put, zzA, zz0, zzS]; rfl), ?_⟩
    (first | (refine tr_off (a' := ?_) rfl rfl (by rfl) ?_ ?_; rotate_left 1; (· simp only [Act.put, zzA, zz0, zzS]; rfl)) | (refine tr_y (v := ?_) (a' := ?_) rfl rfl (by rfl) (fun w' hw' => ?_) ?_ ?_; rotate_left 2; (· go_simp; with_reducible rfl); (· simp only [Act.put, zzA, zz0, zzS]; rfl)))
    (first | (refine tr_off (a' := ?_) rfl rfl (by rfl) ?_ ?_; rotate_left 1; (· simp only [Act.put, zzA, zz0, zzS]; rfl)) | (refine tr_y (v := ?_) (a' := ?_) rfl rfl (by rfl) (fun w' hw' => ?_) ?_ ?_; rotate_left 2; (· go_simp; with_reducible rfl); (· simp only [Act.put, zzA, zz0, zzS]; rfl)))
    (first | (refine tr_off (a' := ?_) rfl rfl (by rfl) ?_ ?_; rotate_left 1; (· simp only [Act.put, zzA, zz0, zzS]; rfl)) | (refine tr_y (v := ?_) (a' := ?_) rfl rfl (by rfl) (fun w' hw' => ?_) ?_ ?_; rotate_left 2; (· go_simp; with_reducible rfl); (· simp only [Act.put, zzA, zz0, zzS]; rfl)))
    (first | (refine tr_off (a' := ?_) rfl rfl (by rfl) ?_ ?_; rotate_left 1; (· simp only [Act.put, zzA, zz0, zzS]; rfl)) | (refine tr_y (v := ?_) (a' := ?_) rfl rfl (by rfl) (fun w' hw' => ?_) ?_ ?_; rotate_left 2; (· go_simp; with_reducible rfl); (· simp only [Act.put, zzA, zz0, zzS]; rfl)))
    refine tr_call (args := ?_) rfl Tryz.func63 (by kernel_rfl) rfl (by rfl) rfl rfl ?_ ?_
    rotate_left 1
    · go_simp; rfl
    (with_reducible refine (hr3 _).mono ?_)
    rintro e qa9 ⟨rfl, ea9⟩
    have hYa9 := hYa8.trans ea9
    refine ⟨_, _, rfl, hYa9, (by simp only [Act.put, zzA, zz0, zzS]; rfl), ?_⟩
    (first | (refine tr_off (a' := ?_) rfl rfl (by rfl) ?_ ?_; rotate_left 1; (· simp only [Act.put, zzA, zz0, zzS]; rfl)) | (refine tr_y (v := ?_) (a' := ?_) rfl rfl (by rfl) (fun w' hw' => ?_) ?_ ?_; rotate_left 2; (· go_simp; with_reducible rfl); (· simp only [Act.put, zzA, zz0, zzS]; rfl)))
    (first | (refine tr_off (a' := ?_) rfl rfl (by rfl) ?_ ?_; rotate_left 1; (· simp only [Act.put, zzA, zz0, zzS]; rfl)) | (refine tr_y (v := ?_) (a' := ?_) rfl rfl (by rfl) (fun w' hw' => ?_) ?_ ?_; rotate_left 2; (· go_simp; with_reducible rfl); (· simp only [Act.put, zzA, zz0, zzS]; rfl)))
    (first | (refine tr_off (a' := ?_) rfl rfl (by rfl) ?_ ?_; rotate_left 1; (· simp only [Act.put, zzA, zz0, zzS]; rfl)) | (refine tr_y (v := ?_) (a' := ?_) rfl rfl (by rfl) (fun w' hw' => ?_) ?_ ?_; rotate_left 2; (· go_simp; with_reducible rfl); (· simp only [Act.put, zzA, zz0, zzS]; rfl)))
    (first | (refine tr_off (a' := ?_) rfl rfl (by rfl) ?_ ?_; rotate_left 1; (· simp only [Act.put, zzA, zz0, zzS]; rfl)) | (refine tr_y (v := ?_) (a' := ?_) rfl rfl (by rfl) (fun w' hw' => ?_) ?_ ?_; rotate_left 2; (· go_simp; with_reducible rfl); (· simp only [Act.put, zzA, zz0, zzS]; rfl)))
    (first | (refine tr_off (a' := ?_) rfl rfl (by rfl) ?_ ?_; rotate_left 1; (· simp only [Act.put, zzA, zz0, zzS]; rfl)) | (refine tr_y (v := ?_) (a' := ?_) rfl rfl (by rfl) (fun w' hw' => ?_) ?_ ?_; rotate_left 2; (· go_simp; with_reducible rfl); (· simp only [Act.put, zzA, zz0, zzS]; rfl)))
    (first | (refine tr_off (a' := ?_) rfl rfl (by rfl) ?_ ?_; rotate_left 1; (· simp only [Act.put, zzA, zz0, zzS]; rfl)) | (refine tr_y (v := ?_) (a' := ?_) rfl rfl (by rfl) (fun w' hw' => ?_) ?_ ?_; rotate_left 2; (· go_simp; with_reducible rfl); (· simp only [Act.put, zzA, zz0, zzS]; rfl)))
    (first | (refine tr_off (a' := ?_) rfl rfl (by rfl) ?_ ?_; rotate_left 1; (· simp only [Act.put, zzA, zz0, zzS]; rfl)) | (refine tr_y (v := ?_) (a' := ?_) rfl rfl (by rfl) (fun w' hw' => ?_) ?_ ?_; rotate_left 2; (· go_simp; with_reducible rfl); (· simp only [Act.put, zzA, zz0, zzS]; rfl)))
    refine tr_end ?_
    refine NoPanic.normal ?_
    go_upto_region 8 with fail
    have a39 := xr39 _ hYa9
    obtain ⟨b4, e4⟩ : ∃ b, decide ((4 : Int) < (m : Int)) = b := ⟨_, rfl⟩
    have e4' : decide (4 < m) = b4 := by rw [← e4]; apply decide_eq_decide.2; omega
    cases b4
    rotate_left 1
    · have h4 : 4 < m := by simpa using e4'
      go_wp2_with fail
      go_ret
      exact ⟨ret_int (by rw [HC.out]; simp [*]), hE.trans hYa9⟩
    have h4 : ¬ 4 < m := by simpa using e4'
    have lq1 := l1 _ hYa9
    have hlq := hlk _ (hE.trans hYa9)
    rcases HLX.out with ⟨h6, rfl⟩ | ⟨h6, hlk2⟩
    · have h6p : 6 < p := by first | exact h6 | (rw [← HP.out]; exact h6)
      go_wp2_with (first | (refine wpList_load_w (by rfl) rfl ?_ lq1 ?_; (· rfl)) | (go_at_call 65; (with_reducible refine hlq.mono ?_); rintro e w8 ⟨rfl, hE8⟩))
      have hY8 := Ext.trans hYa9 hE8
      go_ret
      exact ⟨ret_int (by rw [HC.out]; simp [*]), hE.trans hY8⟩
    have h6p : ¬ 6 < p := by first | exact h6 | (rw [← HP.out]; exact h6)
    have hl3 : (lk == 3) = false := by rcases hlk2 with ⟨_, rfl⟩ | ⟨_, rfl⟩ <;> rfl
    go_upto_region 10 with (first | (refine wpList_load_w (by rfl) rfl ?_ lq1 ?_; (· rfl)) | (go_at_call 65; (with_reducible refine hlq.mono ?_); rintro e w8 ⟨rfl, hE8⟩))
    have hY8 := Ext.trans hYa9 hE8
    have HK2 := Lib.hid hlk2
    clear hlk2 lq1 hlq a39 h6
    go_wp2_with fail
    go_loopw [4] (fun i wr => ∃ j : Nat, j ≤ m ∧ i = .int .i64 j ∧ (∀ x ∈ c.bodies.take j, longB x = false) ∧ Ext W wr) (fun i _ => m - (intOf i).toNat)
    case atStart => exact ⟨0, by omega, rfl, (fun x hx => by simp at hx), hY8⟩
    case round =>
      obtain ⟨j, hjm, rfl, hall, hwr⟩ := hrel
      have a39 := xr39 _ hwr
      have HA := Lib.hid hall
      clear hall
      by_cases hlt : j < m
      · obtain ⟨bb, oo, A1, c1, rfl, z0, h1c, h1S⟩ := n_get (hSW _ hwr) j hlt
        have hml := HM.out
        have ht : c.bodies.take (j + 1) = c.bodies.take j ++ [c.bodies[j]'(by omega)] := List.take_succ_eq_append_getElem (by omega)
        have hmem : c.bodies[j]'(by omega) ∈ c.bodies := List.getElem_mem _
        generalize c.bodies[j]'(by omega) = x at *
        have HT := Lib.hid ht
        have HME := Lib.hid hmem
        obtain ⟨nx, hnx⟩ : ∃ n, x.length = n := ⟨_, rfl⟩
        rw [hnx] at z0
        have HNX := Lib.hid hnx
        clear h1S ht hmem hnx hml h1c
        by_cases hlx : 256 < nx
        · have hb : b1 = true := by
            rw [← HB1.out, List.any_eq_true]
            exact ⟨x, HME.out, by unfold longB; rw [HNX.out]; simpa using hlx⟩
          go_wp2_with fail
          go_ret
          exact ⟨ret_int (by rw [HC.out]; simp [*]), hE.trans hwr⟩
        · go_wp2_with fail
          go_roundw
          case rel =>
            refine ⟨j + 1, by omega, by go_num, fun y hy => ?_, hwr⟩
            rw [HT.out, List.mem_append, List.mem_singleton] at hy
            rcases hy with hy | rfl
            · exact HA.out y hy
            · unfold longB; rw [HNX.out]; simpa using hlx
          case measure => simp [intOf]; omega
      · obtain rfl : j = m := by omega
        have hb : b1 = false := by
          rw [← HB1.out, List.any_eq_false]
          intro x hx
          have := HA.out x (by rw [List.take_of_length_le (by rw [HM.out]; omega)]; exact hx)
          rw [this]; decide
        have lq1 := l1 _ hwr
        have hlq := hlk _ (hE.trans hwr)
        rcases HK2.out with ⟨hb2, rfl⟩ | ⟨hb2, rfl⟩
        · go_wp2_with (first | (refine wpList_load_by rfl rfl ?_ lq1 ?_; (· rfl)) | (go_at_call 65; (with_reducible refine hlq.mono ?_); rintro e w9 ⟨rfl, hE9⟩))
          have hY9 := hwr.trans hE9
          go_ret
          exact ⟨ret_int (by rw [HC.out]; simp [*]), hE.trans hY9⟩
        go_upto_region 17 with (first | (refine wpList_load_by rfl rfl ?_ lq1 ?_; (· rfl)) | (go_at_call 65; (with_reducible refine hlq.mono ?_); rintro e w9 ⟨rfl, hE9⟩))
        have hY9 := hwr.trans hE9
        cases f6
        · go_upto_region 19 with (go_at_call 63; (with_reducible refine (hr6 _).mono ?_); rintro e w10 ⟨rfl, hE10⟩)
          have hY10 := hY9.trans hE10
          have lq0 := l0 _ hY10
          have hf := hfg _ (hE.trans hY10)
          cases fo
          · go_wp2_with (first | (refine wpList_load_by rfl rfl ?_ lq0 ?_; (· rfl)) | (go_at_call 67; (with_reducible refine hf.mono ?_); rintro e w13 ⟨rfl, hE13⟩))
            have hY13 := Ext.trans hY10 hE13
            go_ret
            exact ⟨ret_int (by rw [HC.out]; simp [*]), hE.trans hY13⟩
          · go_wp2_with (first | (refine wpList_load_by rfl rfl ?_ lq0 ?_; (· rfl)) | (go_at_call 67; (with_reducible refine hf.mono ?_); rintro e w13 ⟨rfl, hE13⟩))
            have hY13 := Ext.trans hY10 hE13
            go_ret
            exact ⟨ret_int (by rw [HC.out]; simp [*]), hE.trans hY13⟩
        by_cases hgz : gv = 0
        · go_upto_region 19 with (first | (go_at_call 63; (with_reducible refine (hr6 _).mono ?_); rintro e w10 ⟨rfl, hE10⟩; have hY10 := hY9.trans hE10; have lq8 := l8 _ hY10) | (refine wpList_load_w (by rfl) rfl ?_ lq8 ?_; (· rfl)) | (go_at_call 66; (with_reducible refine (hgc _).mono ?_); rintro e w11 ⟨rfl, hE11⟩))
          have hY11 := hY10.trans hE11
          have lq0 := l0 _ hY11
          have hf := hfg _ (hE.trans hY11)
          cases fo
          · go_wp2_with (first | (refine wpList_load_by rfl rfl ?_ lq0 ?_; (· rfl)) | (go_at_call 67; (with_reducible refine hf.mono ?_); rintro e w13 ⟨rfl, hE13⟩))
            have hY13 := Ext.trans hY11 hE13
            go_ret
            exact ⟨ret_int (by rw [HC.out]; simp [*]), hE.trans hY13⟩
          · go_wp2_with (first | (refine wpList_load_by rfl rfl ?_ lq0 ?_; (· rfl)) | (go_at_call 67; (with_reducible refine hf.mono ?_); rintro e w13 ⟨rfl, hE13⟩))
            have hY13 := Ext.trans hY11 hE13
            go_ret
            exact ⟨ret_int (by rw [HC.out]; simp [*]), hE.trans hY13⟩
        · have hgz2 : (gv != 0) = true := by simpa using hgz
          go_wp2_with (first | (go_at_call 63; (with_reducible refine (hr6 _).mono ?_); rintro e w10 ⟨rfl, hE10⟩; have hY10 := hY9.trans hE10; have lq8 := l8 _ hY10) | (refine wpList_load_w (by rfl) rfl ?_ lq8 ?_; (· rfl)) | (go_at_call 66; (with_reducible refine (hgc _).mono ?_); rintro e w11 ⟨rfl, hE11⟩; have hY11 := hY10.trans hE11; have lq9 := l8 _ hY11) | (refine wpList_load_by rfl rfl ?_ lq9 ?_; (· rfl)) | (go_at_call 66; (with_reducible refine (hgc _).mono ?_); rintro e w12 ⟨rfl, hE12⟩))
          have hY12 := hY11.trans hE12
          go_ret
          exact ⟨ret_int (by rw [HC.out]; simp [*]), hE.trans hY12⟩
  by_cases hm0 : m = 0
  · subst hm0
    refine wp_region_noPanic ?_
    refine tr_start (.y 0 (.y 2 (.y 3 (.e 1 (.e 4 (.y 5 (.y 6 (.y 7 (.y 9 (.y 10 (.e 8 (.e 11 (.y 12 (.y 13 (.y 14 (.y 15 (.y 17 (.y 18 (.e 16 (.e 19 (.y 20 (.y 21 (.y 22 (.y 23 (.y 25 (.y 26 (.e 24 (.e 27 (.y 28 (.y 29 (.y 30 (.y 31 (.e 32 (.y 33 (.y 34 (.y 35 (.y 36 (.y 37 (.y 38 (.y 39 .nil)))))))))))))))))))))))))))))))))))))))) (fun w' => Ext W w') (by kernel_rfl) (by as_aux_lemma => kernel_rfl) (fun _ _ _ _ _ h => h) (by (repeat (first | assumption | exact Ext.refl _ | refine Ext.drew ?_ | refine Ext.alloc ?_ _ | refine Ext.drewN ?_ _ | refine Ext.trans ?_ (by assumption)))) ?_
    have ea0 : Ext q4 q4.drew := (Ext.refl _).drew
    generalize q4.drew = qa0 at ea0 ⊢
    have hYa0 := hY4.trans ea0
    (first | (refine tr_off (a' := ?_) rfl rfl (by rfl) ?_ ?_; rotate_left 1; (· simp only [Act.put, zzA, zz0, zzS]; rfl)) | (refine tr_y (v := ?_) (a' := ?_) rfl rfl (by rfl) (fun w' hw' => ?_) ?_ ?_; rotate_left 2; (· go_simp; with_reducible rfl); (· simp only [Act.put, zzA, zz0, zzS]; rfl)))
    (first | (refine tr_off (a' := ?_) rfl rfl (by rfl) ?_ ?_; rotate_left 1; (· simp only [Act.put, zzA, zz0, zzS]; rfl)) | (refine tr_y (v := ?_) (a' := ?_) rfl rfl (by rfl) (fun w' hw' => ?_) ?_ ?_; rotate_left 2; (· go_simp; with_reducible rfl); (· simp only [Act.put, zzA, zz0, zzS]; rfl)))
    (first | (refine tr_off (a' := ?_) rfl rfl (by rfl) ?_ ?_; rotate_left 1; (· simp only [Act.put, zzA, zz0, zzS]; rfl)) | (refine tr_y (v := ?_) (a' := ?_) rfl rfl (by rfl) (fun w' hw' => ?_) ?_ ?_; rotate_left 2; (· go_simp; with_reducible rfl); (· simp only [Act.put, zzA, zz0, zzS]; rfl)))
    refine tr_call (args := ?_) rfl Tryz.func63 (by kernel_rfl) rfl (by rfl) rfl rfl ?_ ?_
    rotate_left 1
    · go_simp; rfl
    (with_reducible refine (hr2 _).mono ?_)
    rintro e qa1 ⟨rfl, ea1⟩
    have hYa1 := hYa0.trans ea1
    refine ⟨_, _, rfl, hYa1, (by simp only [Act.put, zzA, zz0, zzS]; rfl), ?_⟩
    refine tr_call (args := ?_) rfl Tryz.func64 (by kernel_rfl) rfl (by rfl) rfl rfl ?_ ?_
    rotate_left 1
    · go_simp; rfl
    (with_reducible refine (pl1 _).mono ?_)
    rintro e qa2 ⟨rfl, ea2⟩
    have hYa2 := hYa1.trans ea2
    refine ⟨_, _, rfl, hYa2, (by simp only [Act.put, zzA, zz0, zzS]; rfl), ?_⟩
    (first | (refine tr_off (a' := ?_) rfl rfl (by rfl) ?_ ?_; rotate_left 1; (· simp only [Act.put, zzA, zz0, zzS]; rfl)) | (refine tr_y (v := ?_) (a' := ?_) rfl rfl (by rfl) (fun w' hw' => ?_) ?_ ?_; rotate_left 2; (· go_simp; with_reducible rfl); (· simp only [Act.put, zzA, zz0, zzS]; rfl)))
    (first | (refine tr_off (a' := ?_) rfl rfl (by rfl) ?_ ?_; rotate_left 1; (· simp only [Act.put, zzA, zz0, zzS]; rfl)) | (refine tr_y (v := ?_) (a' := ?_) rfl rfl (by rfl) (fun w' hw' => ?_) ?_ ?_; rotate_left 2; (· go_simp; with_reducible rfl); (· simp only [Act.put, zzA, zz0, zzS]; rfl)))
    (first | (refine tr_off (a' := ?_) rfl rfl (by rfl) ?_ ?_; rotate_left 1; (· simp only [Act.put, zzA, zz0, zzS]; rfl)) | (refine tr_y (v := ?_) (a' := ?_) rfl rfl (by rfl) (fun w' hw' => ?_) ?_ ?_; rotate_left 2; (· go_simp; with_reducible rfl); (· simp only [Act.put, zzA, zz0, zzS]; rfl)))
    (first | (refine tr_off (a' := ?_) rfl rfl (by rfl) ?_ ?_; rotate_left 1; (· simp only [Act.put, zzA, zz0, zzS]; rfl)) | (refine tr_y (v := ?_) (a' := ?_) rfl rfl (by rfl) (fun w' hw' => ?_) ?_ ?_; rotate_left 2; (· go_simp; with_reducible rfl); (· simp only [Act.put, zzA, zz0, zzS]; rfl)))
    (first | (refine tr_off (a' := ?_) rfl rfl (by rfl) ?_ ?_; rotate_left 1; (· simp only [Act.put, zzA, zz0, zzS]; rfl)) | (refine tr_y (v := ?_) (a' := ?_) rfl rfl (by rfl) (fun w' hw' => ?_) ?_ ?_; rotate_left 2; (· go_simp; with_reducible rfl); (· simp only [Act.put, zzA, zz0, zzS]; rfl)))
    refine tr_call (args := ?_) rfl Tryz.func63 (by kernel_rfl) rfl (by rfl) rfl rfl ?_ ?_
    rotate_left 1
    · go_simp; rfl
    (with_reducible refine (hr4 _).mono ?_)
    rintro e qa3 ⟨rfl, ea3⟩
    have hYa3 := hYa2.trans ea3
    refine ⟨_, _, rfl, hYa3, (by simp only [Act.put, zzA, zz0, zzS]; rfl), ?_⟩
    refine tr_call (args := ?_) rfl Tryz.func64 (by kernel_rfl) rfl (by rfl) rfl rfl ?_ ?_
    rotate_left 1
    · go_simp; rfl
    (with_reducible refine (pl2 _).mono ?_)
    rintro e qa4 ⟨rfl, ea4⟩
    have hYa4 := hYa3.trans ea4
    refine ⟨_, _, rfl, hYa4, (by simp only [Act.put, zzA, zz0, zzS]; rfl), ?_⟩
    (first | (refine tr_off (a' := ?_) rfl rfl (by rfl) ?_ ?_; rotate_left 1; (· simp only [Act.put, zzA, zz0, zzS]; rfl)) | (refine tr_y (v := ?_) (a' := ?_) rfl rfl (by rfl) (fun w' hw' => ?_) ?_ ?_; rotate_left 2; (· go_simp; with_reducible rfl); (· simp only [Act.put, zzA, zz0, zzS]; rfl)))
    (first | (refine tr_off (a' := ?_) rfl rfl (by rfl) ?_ ?_; rotate_left 1; (· simp only [Act.put, zzA, zz0, zzS]; rfl)) | (refine tr_y (v := ?_) (a' := ?_) rfl rfl (by rfl) (fun w' hw' => ?_) ?_ ?_; rotate_left 2; (· go_simp; with_reducible rfl); (· simp only [Act.put, zzA, zz0, zzS]; rfl)))
    (first | (refine tr_off (a' := ?_) rfl rfl (by rfl) ?_ ?_; rotate_left 1; (· simp only [Act.put, zzA, zz0, zzS]; rfl)) | (refine tr_y (v := ?_) (a' := ?_) rfl rfl (by rfl) (fun w' hw' => ?_) ?_ ?_; rotate_left 2; (· go_simp; with_reducible rfl); (· simp only [Act.put, zzA, zz0, zzS]; rfl)))
    (first | (refine tr_off (a' := ?_) rfl rfl (by rfl) ?_ ?_; rotate_left 1; (· simp only [Act.put, zzA, zz0, zzS]; rfl)) | (refine tr_y (v := ?_) (a' := ?_) rfl rfl (by rfl) (fun w' hw' => ?_) ?_ ?_; rotate_left 2; (· go_simp; with_reducible rfl); (· simp only [Act.put, zzA, zz0, zzS]; rfl)))
    (first | (refine tr_off (a' := ?_) rfl rfl (by rfl) ?_ ?_; rotate_left 1; (· simp only [Act.put, zzA, zz0, zzS]; rfl)) | (refine tr_y (v := ?_) (a' := ?_) rfl rfl (by rfl) (fun w' hw' => ?_) ?_ ?_; rotate_left 2; (· go_simp; with_reducible rfl); (· simp only [Act.put, zzA, zz0, zzS]; rfl)))
    (first | (refine tr_off (a' := ?_) rfl rfl (by rfl) ?_ ?_; rotate_left 1; (· simp only [Act.put, zzA, zz0, zzS]; rfl)) | (refine tr_y (v := ?_) (a' := ?_) rfl rfl (by rfl) (fun w' hw' => ?_) ?_ ?_; rotate_left 2; (· go_simp; with_reducible rfl); (· simp only [Act.put, zzA, zz0, zzS]; rfl)))
    refine tr_call (args := ?_) rfl Tryz.func63 (by kernel_rfl) rfl (by rfl) rfl rfl ?_ ?_
    rotate_left 1
    · go_simp; rfl
    (with_reducible refine (hr5 _).mono ?_)
    rintro e qa5 ⟨rfl, ea5⟩
    have hYa5 := hYa4.trans ea5
    refine ⟨_, _, rfl, hYa5, (by simp only [Act.put, zzA, zz0, zzS]; rfl), ?_⟩
    refine tr_call (args := ?_) rfl Tryz.func64 (by kernel_rfl) rfl (by rfl) rfl rfl ?_ ?_
    rotate_left 1
    · go_simp; rfl
    (with_reducible refine (pl3 _).mono ?_)
    rintro e qa6 ⟨rfl, ea6⟩
    have hYa6 := hYa5.trans ea6
    refine ⟨_, _, rfl, hYa6, (by simp only [Act.put, zzA, zz0, zzS]; rfl), ?_⟩
    (first | (refine tr_off (a' := ?_) rfl rfl (by rfl) ?_ ?_; rotate_left 1; (· simp only [Act.put, zzA, zz0, zzS]; rfl)) | (refine tr_y (v := ?_) (a' := ?_) rfl rfl (by rfl) (fun w' hw' => ?_) ?_ ?_; rotate_left 2; (· go_simp; with_reducible rfl); (· simp only [Act.put, zzA, zz0, zzS]; rfl)))
    (first | (refine tr_off (a' := ?_) rfl rfl (by rfl) ?_ ?_; rotate_left 1; (· simp only [Act.put, zzA, zz0, zzS]; rfl)) | (refine tr_y (v := ?_) (a' := ?_) rfl rfl (by rfl) (fun w' hw' => ?_) ?_ ?_; rotate_left 2; (· go_simp; with_reducible rfl); (· simp only [Act.put, zzA, zz0, zzS]; rfl)))
    (first | (refine tr_off (a' := ?_) rfl rfl (by rfl) ?_ ?_; rotate_left 1; (· simp only [Act.put, zzA, zz0, zzS]; rfl)) | (refine tr_y (v := ?_) (a' := ?_) rfl rfl (by rfl) (fun w' hw' => ?_) ?_ ?_; rotate_left 2; (· go_simp; with_reducible rfl); (· simp only [Act.put, zzA, zz0, zzS]; rfl)))
    (first | (refine tr_off (a' := ?_) rfl rfl (by rfl) ?_ ?_; rotate_left 1; (· simp only [Act.put, zzA, zz0, zzS]; rfl)) | (refine tr_y (v := ?_) (a' := ?_) rfl rfl (by rfl) (fun w' hw' => ?_) ?_ ?_; rotate_left 2; (· go_simp; with_reducible rfl); (· simp only [Act.put, zzA, zz0, zzS]; rfl)))
    (first | (refine tr_off (a' := ?_) rfl rfl (by rfl) ?_ ?_; rotate_left 1; (· simp only [Act.put, zzA, zz0, zzS]; rfl)) | (refine tr_y (v := ?_) (a' := ?_) rfl rfl (by rfl) (fun w' hw' => ?_) ?_ ?_; rotate_left 2; (· go_simp; with_reducible rfl); (· simp only [Act.put, zzA, zz0, zzS]; rfl)))
    (first | (refine tr_off (a' := ?_) rfl rfl (by rfl) ?_ ?_; rotate_left 1; (· simp only [Act.put, zzA, zz0, zzS]; rfl)) | (refine tr_y (v := ?_) (a' := ?_) rfl rfl (by rfl) (fun w' hw' => ?_) ?_ ?_; rotate_left 2; (· go_simp; with_reducible rfl); (· simp only [Act.put, zzA, zz0, zzS]; rfl)))
    refine tr_call (args := ?_) rfl Tryz.func63 (by kernel_rfl) rfl (by rfl) rfl rfl ?_ ?_
    rotate_left 1
    · go_simp; rfl
    (with_reducible refine (hr7 _).mono ?_)
    rintro e qa7 ⟨rfl, ea7⟩
    have hYa7 := hYa6.trans ea7
    refine ⟨_, _, rfl, hYa7, (by simp only [Act.put, zzA, zz0, zzS]; rfl), ?_⟩
    refine tr_call (args := ?_) rfl Tryz.func64 (by kernel_rfl) rfl (by rfl) rfl rfl ?_ ?_
    rotate_left 1
    · go_simp; rfl
    (with_reducible refine (pl4 _).mono ?_)
    rintro e qa8 ⟨rfl, ea8⟩
    have hYa8 := hYa7.trans ea8
    refine ⟨_, _, rfl, hYa8, (by simp only [Act.put, zzA, zz0, zzS]; rfl), ?_⟩
    (first | (refine tr_off (a' := ?_) rfl rfl (by rfl) ?_ ?_; rotate_left 1; (· simp only [Act.put, zzA, zz0, zzS]; rfl)) | (refine tr_y (v := ?_) (a' := ?_) rfl rfl (by rfl) (fun w' hw' => ?_) ?_ ?_; rotate_left 2; (· go_simp; with_reducible rfl); (· simp only [Act.put, zzA, zz0, zzS]; rfl)))
    (first | (refine tr_off (a' := ?_) rfl rfl (by rfl) ?_ ?_; rotate_left 1; (· simp only [Act.put, zzA, zz0, zzS]; rfl)) | (refine tr_y (v := ?_) (a' := ?_) rfl rfl (by rfl) (fun w' hw' => ?_) ?_ ?_; rotate_left 2; (· go_simp; with_reducible rfl); (· simp only [Act.put, zzA, zz0, zzS]; rfl)))
    (first | (refine tr_off (a' := ?_) rfl rfl (by rfl) ?_ ?_; rotate_left 1; (· simp only [Act.put, zzA, zz0, zzS]; rfl)) | (refine tr_y (v := ?_) (a' := ?_) rfl rfl (by rfl) (fun w' hw' => ?_) ?_ ?_; rotate_left 2; (· go_simp; with_reducible rfl); (· simp only [Act.put, zzA, zz0, zzS]; rfl)))
    (first | (refine tr_off (a' := ?_) rfl rfl (by rfl) ?_ ?_; rotate_left 1; (· simp only [Act.put, zzA, zz0, zzS]; rfl)) | (refine tr_y (v := ?_) (a' := ?_) rfl rfl (by rfl) (fun w' hw' => ?_) ?_ ?_; rotate_left 2; (· go_simp; with_reducible rfl); (· simp only [Act.put, zzA, zz0, zzS]; rfl)))
    refine tr_call (args := ?_) rfl Tryz.func63 (by kernel_rfl) rfl (by rfl) rfl rfl ?_ ?_
    rotate_left 1
    · go_simp; rfl
    (with_reducible refine (hr3 _).mono ?_)
    rintro e qa9 ⟨rfl, ea9⟩
    have hYa9 := hYa8.trans ea9
    refine ⟨_, _, rfl, hYa9, (by simp only [Act.put, zzA, zz0, zzS]; rfl), ?_⟩
    (first | (refine tr_off (a' := ?_) rfl rfl (by rfl) ?_ ?_; rotate_left 1; (· simp only [Act.put, zzA, zz0, zzS]; rfl)) | (refine tr_y (v := ?_) (a' := ?_) rfl rfl (by rfl) (fun w' hw' => ?_) ?_ ?_; rotate_left 2; (· go_simp; with_reducible rfl); (· simp only [Act.put, zzA, zz0, zzS]; rfl)))
    (first | (refine tr_off (a' := ?_) rfl rfl (by rfl) ?_ ?_; rotate_left 1; (· simp only [Act.put, zzA, zz0, zzS]; rfl)) | (refine tr_y (v := ?_) (a' := ?_) rfl rfl (by rfl) (fun w' hw' => ?_) ?_ ?_; rotate_left 2; (· go_simp; with_reducible rfl); (· simp only [Act.put, zzA, zz0, zzS]; rfl)))
    (first | (refine tr_off (a' := ?_) rfl rfl (by rfl) ?_ ?_; rotate_left 1; (· simp only [Act.put, zzA, zz0, zzS]; rfl)) | (refine tr_y (v := ?_) (a' := ?_) rfl rfl (by rfl) (fun w' hw' => ?_) ?_ ?_; rotate_left 2; (· go_simp; with_reducible rfl); (· simp only [Act.put, zzA, zz0, zzS]; rfl)))
    (first | (refine tr_off (a' := ?_) rfl rfl (by rfl) ?_ ?_; rotate_left 1; (· simp only [Act.put, zzA, zz0, zzS]; rfl)) | (refine tr_y (v := ?_) (a' := ?_) rfl rfl (by rfl) (fun w' hw' => ?_) ?_ ?_; rotate_left 2; (· go_simp; with_reducible rfl); (· simp only [Act.put, zzA, zz0, zzS]; rfl)))
    (first | (refine tr_off (a' := ?_) rfl rfl (by rfl) ?_ ?_; rotate_left 1; (· simp only [Act.put, zzA, zz0, zzS]; rfl)) | (refine tr_y (v := ?_) (a' := ?_) rfl rfl (by rfl) (fun w' hw' => ?_) ?_ ?_; rotate_left 2; (· go_simp; with_reducible rfl); (· simp only [Act.put, zzA, zz0, zzS]; rfl)))
    (first | (refine tr_off (a' := ?_) rfl rfl (by rfl) ?_ ?_; rotate_left 1; (· simp only [Act.put, zzA, zz0, zzS]; rfl)) | (refine tr_y (v := ?_) (a' := ?_) rfl rfl (by rfl) (fun w' hw' => ?_) ?_ ?_; rotate_left 2; (· go_simp; with_reducible rfl); (· simp only [Act.put, zzA, zz0, zzS]; rfl)))
    (first | (refine tr_off (a' := ?_) rfl rfl (by rfl) ?_ ?_; rotate_left 1; (· simp only [Act.put, zzA, zz0, zzS]; rfl)) | (refine tr_y (v := ?_) (a' := ?_) rfl rfl (by rfl) (fun w' hw' => ?_) ?_ ?_; rotate_left 2; (· go_simp; with_reducible rfl); (· simp only [Act.put, zzA, zz0, zzS]; rfl)))
    refine tr_end ?_
    refine NoPanic.normal ?_
    go_wp2_with fail
    go_ret
    exact ⟨ret_int (by rw [HC.out]; simp [*]), hE.trans hYa9⟩
  · have hm1 : ((m : Int) == 0) = false := by simpa using hm0
    have hm2 : (m == 0) = false := by simpa using hm0
    refine wp_region_noPanic ?_
    refine tr_start (.y 0 (.y 2 (.y 3 (.e 1 (.e 4 (.y 5 (.y 6 (.y 7 (.y 9 (.y 10 (.e 8 (.e 11 (.y 12 (.y 13 (.y 14 (.y 15 (.y 17 (.y 18 (.e 16 (.e 19 (.y 20 (.y 21 (.y 22 (.y 23 (.y 25 (.y 26 (.e 24 (.e 27 (.y 28 (.y 29 (.y 30 (.y 31 (.e 32 (.y 33 (.y 34 (.y 35 (.y 36 (.y 37 (.y 38 (.y 39 .nil)))))))))))))))))))))))))))))))))))))))) (fun w' => Ext W w') (by kernel_rfl) (by as_aux_lemma => kernel_rfl) (fun _ _ _ _ _ h => h) (by (repeat (first | assumption | exact Ext.refl _ | refine Ext.drew ?_ | refine Ext.alloc ?_ _ | refine Ext.drewN ?_ _ | refine Ext.trans ?_ (by assumption)))) ?_
    have ea0 : Ext q4 q4.drew := (Ext.refl _).drew
    generalize q4.drew = qa0 at ea0 ⊢
    have hYa0 := hY4.trans ea0
    (first | (refine tr_off (a' := ?_) rfl rfl (by rfl) ?_ ?_; rotate_left 1; (· simp only [Act.put, zzA, zz0, zzS]; rfl)) | (refine tr_y (v := ?_) (a' := ?_) rfl rfl (by rfl) (fun w' hw' => ?_) ?_ ?_; rotate_left 2; (· go_simp; with_reducible rfl); (· simp only [Act.put, zzA, zz0, zzS]; rfl)))
    (first | (refine tr_off (a' := ?_) rfl rfl (by rfl) ?_ ?_; rotate_left 1; (· simp only [Act.put, zzA, zz0, zzS]; rfl)) | (refine tr_y (v := ?_) (a' := ?_) rfl rfl (by rfl) (fun w' hw' => ?_) ?_ ?_; rotate_left 2; (· go_simp; with_reducible rfl); (· simp only [Act.put, zzA, zz0, zzS]; rfl)))
    (first | (refine tr_off (a' := ?_) rfl rfl (by rfl) ?_ ?_; rotate_left 1; (· simp only [Act.put, zzA, zz0, zzS]; rfl)) | (refine tr_y (v := ?_) (a' := ?_) rfl rfl (by rfl) (fun w' hw' => ?_) ?_ ?_; rotate_left 2; (· go_simp; with_reducible rfl); (· simp only [Act.put, zzA, zz0, zzS]; rfl)))
    refine tr_call (args := ?_) rfl Tryz.func63 (by kernel_rfl) rfl (by rfl) rfl rfl ?_ ?_
    rotate_left 1
    · go_simp; rfl
    (with_reducible refine (hr2 _).mono ?_)
    rintro e qa1 ⟨rfl, ea1⟩
    have hYa1 := hYa0.trans ea1
    refine ⟨_, _, rfl, hYa1, (by simp only [Act.put, zzA, zz0, zzS]; rfl), ?_⟩
    refine tr_call (args := ?_) rfl Tryz.func64 (by kernel_rfl) rfl (by rfl) rfl rfl ?_ ?_
    rotate_left 1
    · go_simp; rfl
    (with_reducible refine (pl1 _).mono ?_)
    rintro e qa2 ⟨rfl, ea2⟩
    have hYa2 := hYa1.trans ea2
    refine ⟨_, _, rfl, hYa2, (by simp only [Act.put, zzA, zz0, zzS]; rfl), ?_⟩
    (first | (refine tr_off (a' := ?_) rfl rfl (by rfl) ?_ ?_; rotate_left 1; (· simp only [Act.put, zzA, zz0, zzS]; rfl)) | (refine tr_y (v := ?_) (a' := ?_) rfl rfl (by rfl) (fun w' hw' => ?_) ?_ ?_; rotate_left 2; (· go_simp; with_reducible rfl); (· simp only [Act.put, zzA, zz0, zzS]; rfl)))
    (first | (refine tr_off (a' := ?_) rfl rfl (by rfl) ?_ ?_; rotate_left 1; (· simp only [Act.put, zzA, zz0, zzS]; rfl)) | (refine tr_y (v := ?_) (a' := ?_) rfl rfl (by rfl) (fun w' hw' => ?_) ?_ ?_; rotate_left 2; (· go_simp; with_reducible rfl); (· simp only [Act.put, zzA, zz0, zzS]; rfl)))
    (first | (refine tr_off (a' := ?_) rfl rfl (by rfl) ?_ ?_; rotate_left 1; (· simp only [Act.put, zzA, zz0, zzS]; rfl)) | (refine tr_y (v := ?_) (a' := ?_) rfl rfl (by rfl) (fun w' hw' => ?_) ?_ ?_; rotate_left 2; (· go_simp; with_reducible rfl); (· simp only [Act.put, zzA, zz0, zzS]; rfl)))
    (first | (refine tr_off (a' := ?_) rfl rfl (by rfl) ?_ ?_; rotate_left 1; (· simp only [Act.put, zzA, zz0, zzS]; rfl)) | (refine tr_y (v := ?_) (a' := ?_) rfl rfl (by rfl) (fun w' hw' => ?_) ?_ ?_; rotate_left 2; (· go_simp; with_reducible rfl); (· simp only [Act.put, zzA, zz0, zzS]; rfl)))
    (first | (refine tr_off (a' := ?_) rfl rfl (by rfl) ?_ ?_; rotate_left 1; (· simp only [Act.put, zzA, zz0, zzS]; rfl)) | (refine tr_y (v := ?_) (a' := ?_) rfl rfl (by rfl) (fun w' hw' => ?_) ?_ ?_; rotate_left 2; (· go_simp; with_reducible rfl); (· simp only [Act.put, zzA, zz0, zzS]; rfl)))
    refine tr_call (args := ?_) rfl Tryz.func63 (by kernel_rfl) rfl (by rfl) rfl rfl ?_ ?_
    rotate_left 1
    · go_simp; rfl
    (with_reducible refine (hr4 _).mono ?_)
    rintro e qa3 ⟨rfl, ea3⟩
    have hYa3 := hYa2.trans ea3
    refine ⟨_, _, rfl, hYa3, (by simp only [Act.put, zzA, zz0, zzS]; rfl), ?_⟩
    refine tr_call (args := ?_) rfl Tryz.func64 (by kernel_rfl) rfl (by rfl) rfl rfl ?_ ?_
    rotate_left 1
    · go_simp; rfl
    (with_reducible refine (pl2 _).mono ?_)
    rintro e qa4 ⟨rfl, ea4⟩
    have hYa4 := hYa3.trans ea4
    refine ⟨_, _, rfl, hYa4, (by simp only [Act.put, zzA, zz0, zzS]; rfl), ?_⟩
    (first | (refine tr_off (a' := ?_) rfl rfl (by rfl) ?_ ?_; rotate_left 1; (· simp only [Act.put, zzA, zz0, zzS]; rfl)) | (refine tr_y (v := ?_) (a' := ?_) rfl rfl (by rfl) (fun w' hw' => ?_) ?_ ?_; rotate_left 2; (· go_simp; with_reducible rfl); (· simp only [Act.put, zzA, zz0, zzS]; rfl)))
    (first | (refine tr_off (a' := ?_) rfl rfl (by rfl) ?_ ?_; rotate_left 1; (· simp only [Act.put, zzA, zz0, zzS]; rfl)) | (refine tr_y (v := ?_) (a' := ?_) rfl rfl (by rfl) (fun w' hw' => ?_) ?_ ?_; rotate_left 2; (· go_simp; with_reducible rfl); (· simp only [Act.put, zzA, zz0, zzS]; rfl)))
    (first | (refine tr_off (a' := ?_) rfl rfl (by rfl) ?_ ?_; rotate_left 1; (· simp only [Act.put, zzA, zz0, zzS]; rfl)) | (refine tr_y (v := ?_) (a' := ?_) rfl rfl (by rfl) (fun w' hw' => ?_) ?_ ?_; rotate_left 2; (· go_simp; with_reducible rfl); (· simp only [Act.put, zzA, zz0, zzS]; rfl)))
    (first | (refine tr_off (a' := ?_) rfl rfl (by rfl) ?_ ?_; rotate_left 1; (· simp only [Act.put, zzA, zz0, zzS]; rfl)) | (refine tr_y (v := ?_) (a' := ?_) rfl rfl (by rfl) (fun w' hw' => ?_) ?_ ?_; rotate_left 2; (· go_simp; with_reducible rfl); (· simp only [Act.put, zzA, zz0, zzS]; rfl)))
    (first | (refine tr_off (a' := ?_) rfl rfl (by rfl) ?_ ?_; rotate_left 1; (· simp only [Act.put, zzA, zz0, zzS]; rfl)) | (refine tr_y (v := ?_) (a' := ?_) rfl rfl (by rfl) (fun w' hw' => ?_) ?_ ?_; rotate_left 2; (· go_simp; with_reducible rfl); (· simp only [Act.put, zzA, zz0, zzS]; rfl)))
    (first | (refine tr_off (a' := ?_) rfl rfl (by rfl) ?_ ?_; rotate_left 1; (· simp only [Act.put, zzA, zz0, zzS]; rfl)) | (refine tr_y (v := ?_) (a' := ?_) rfl rfl (by rfl) (fun w' hw' => ?_) ?_ ?_; rotate_left 2; (· go_simp; with_reducible rfl); (· simp only [Act.put, zzA, zz0, zzS]; rfl)))
    refine tr_call (args := ?_) rfl Tryz.func63 (by kernel_rfl) rfl (by rfl) rfl rfl ?_ ?_
    rotate_left 1
    · go_simp; rfl
    (with_reducible refine (hr5 _).mono ?_)
    rintro e qa5 ⟨rfl, ea5⟩
    have hYa5 := hYa4.trans ea5
    refine ⟨_, _, rfl, hYa5, (by simp only [Act.put, zzA, zz0, zzS]; rfl), ?_⟩
    refine tr_call (args := ?_) rfl Tryz.func64 (by kernel_rfl) rfl (by rfl) rfl rfl ?_ ?_
    rotate_left 1
    · go_simp; rfl
    (with_reducible refine (pl3 _).mono ?_)
    rintro e qa6 ⟨rfl, ea6⟩
    have hYa6 := hYa5.trans ea6
    refine ⟨_, _, rfl, hYa6, (by simp only [Act.put, zzA, zz0, zzS]; rfl), ?_⟩
    (first | (refine tr_off (a' := ?_) rfl rfl (by rfl) ?_ ?_; rotate_left 1; (· simp only [Act.put, zzA, zz0, zzS]; rfl)) | (refine tr_y (v := ?_) (a' := ?_) rfl rfl (by rfl) (fun w' hw' => ?_) ?_ ?_; rotate_left 2; (· go_simp; with_reducible rfl); (· simp only [Act.put, zzA, zz0, zzS]; rfl)))
    (first | (refine tr_off (a' := ?_) rfl rfl (by rfl) ?_ ?_; rotate_left 1; (· simp only [Act.put, zzA, zz0, zzS]; rfl)) | (refine tr_y (v := ?_) (a' := ?_) rfl rfl (by rfl) (fun w' hw' => ?_) ?_ ?_; rotate_left 2; (· go_simp; with_reducible rfl); (· simp only [Act.put, zzA, zz0, zzS]; rfl)))
    (first | (refine tr_off (a' := ?_) rfl rfl (by rfl) ?_ ?_; rotate_left 1; (· simp only [Act.put, zzA, zz0, zzS]; rfl)) | (refine tr_y (v := ?_) (a' := ?_) rfl rfl (by rfl) (fun w' hw' => ?_) ?_ ?_; rotate_left 2; (· go_simp; with_reducible rfl); (· simp only [Act.put, zzA, zz0, zzS]; rfl)))
    (first | (refine tr_off (a' := ?_) rfl rfl (by rfl) ?_ ?_; rotate_left 1; (· simp only [Act.put, zzA, zz0, zzS]; rfl)) | (refine tr_y (v := ?_) (a' := ?_) rfl rfl (by rfl) (fun w' hw' => ?_) ?_ ?_; rotate_left 2; (· go_simp; with_reducible rfl); (· simp only [Act.put, zzA, zz0, zzS]; rfl)))
    (first | (refine tr_off (a' := ?_) rfl rfl (by rfl) ?_ ?_; rotate_left 1; (· simp only [Act.put, zzA, zz0, zzS]; rfl)) | (refine tr_y (v := ?_) (a' := ?_) rfl rfl (by rfl) (fun w' hw' => ?_) ?_ ?_; rotate_left 2; (· go_simp; with_reducible rfl); (· simp only [Act.put, zzA, zz0, zzS]; rfl)))
    (first | (refine tr_off (a' := ?_) rfl rfl (by rfl) ?_ ?_; rotate_left 1; (· simp only [Act.put, zzA, zz0, zzS]; rfl)) | (refine tr_y (v := ?_) (a' := ?_) rfl rfl (by rfl) (fun w' hw' => ?_) ?_ ?_; rotate_left 2; (· go_simp; with_reducible rfl); (· simp only [Act.put, zzA, zz0, zzS]; rfl)))
    refine tr_call (args := ?_) rfl Tryz.func63 (by kernel_rfl) rfl (by rfl) rfl rfl ?_ ?_
    rotate_left 1
    · go_simp; rfl
    (with_reducible refine (hr7 _).mono ?_)
    rintro e qa7 ⟨rfl, ea7⟩
    have hYa7 := hYa6.trans ea7
    refine ⟨_, _, rfl, hYa7, (by simp only [Act.put, zzA, zz0, zzS]; rfl), ?_⟩
    refine tr_call (args := ?_) rfl Tryz.func64 (by kernel_rfl) rfl (by rfl) rfl rfl ?_ ?_
    rotate_left 1
    · go_simp; rfl
    (with_reducible refine (pl4 _).mono ?_)
    rintro e qa8 ⟨rfl, ea8⟩
    have hYa8 := hYa7.trans ea8
    refine ⟨_, _, rfl, hYa8, (by simp only [Act.put, zzA, zz0, zzS]; rfl), ?_⟩
    (first | (refine tr_off (a' := ?_) rfl rfl (by rfl) ?_ ?_; rotate_left 1; (· simp only [Act.put, zzA, zz0, zzS]; rfl)) | (refine tr_y (v := ?_) (a' := ?_) rfl rfl (by rfl) (fun w' hw' => ?_) ?_ ?_; rotate_left 2; (· go_simp; with_reducible rfl); (· simp only [Act.put, zzA, zz0, zzS]; rfl)))
    (first | (refine tr_off (a' := ?_) rfl rfl (by rfl) ?_ ?_; rotate_left 1; (· simp only [Act.put, zzA, zz0, zzS]; rfl)) | (refine tr_y (v := ?_) (a' := ?_) rfl rfl (by rfl) (fun w' hw' => ?_) ?_ ?_; rotate_left 2; (· go_simp; with_reducible rfl); (· simp only [Act.put, zzA, zz0, zzS]; rfl)))
    (first | (refine tr_off (a' := ?_) rfl rfl (by rfl) ?_ ?_; rotate_left 1; (· simp only [Act.put, zzA, zz0, zzS]; rfl)) | (refine tr_y (v := ?_) (a' := ?_) rfl rfl (by rfl) (fun w' hw' => ?_) ?_ ?_; rotate_left 2; (· go_simp; with_reducible rfl); (· simp only [Act.put, zzA, zz0, zzS]; rfl)))
    (first | (refine tr_off (a' := ?_) rfl rfl (by rfl) ?_ ?_; rotate_left 1; (· simp only [Act.put, zzA, zz0, zzS]; rfl)) | (refine tr_y (v := ?_) (a' := ?_) rfl rfl (by rfl) (fun w' hw' => ?_) ?_ ?_; rotate_left 2; (· go_simp; with_reducible rfl); (· simp only [Act.put, zzA, zz0, zzS]; rfl)))
    refine tr_call (args := ?_) rfl Tryz.func63 (by kernel_rfl) rfl (by rfl) rfl rfl ?_ ?_
    rotate_left 1
    · go_simp; rfl
    (with_reducible refine (hr3 _).mono ?_)
    rintro e qa9 ⟨rfl, ea9⟩
    have hYa9 := hYa8.trans ea9
    refine ⟨_, _, rfl, hYa9, (by simp only [Act.put, zzA, zz0, zzS]; rfl), ?_⟩
    (first | (refine tr_off (a' := ?_) rfl rfl (by rfl) ?_ ?_; rotate_left 1; (· simp only [Act.put, zzA, zz0, zzS]; rfl)) | (refine tr_y (v := ?_) (a' := ?_) rfl rfl (by rfl) (fun w' hw' => ?_) ?_ ?_; rotate_left 2; (· go_simp; with_reducible rfl); (· simp only [Act.put, zzA, zz0, zzS]; rfl)))
    (first | (refine tr_off (a' := ?_) rfl rfl (by rfl) ?_ ?_; rotate_left 1; (· simp only [Act.put, zzA, zz0, zzS]; rfl)) | (refine tr_y (v := ?_) (a' := ?_) rfl rfl (by rfl) (fun w' hw' => ?_) ?_ ?_; rotate_left 2; (· go_simp; with_reducible rfl); (· simp only [Act.put, zzA, zz0, zzS]; rfl)))
    (first | (refine tr_off (a' := ?_) rfl rfl (by rfl) ?_ ?_; rotate_left 1; (· simp only [Act.put, zzA, zz0, zzS]; rfl)) | (refine tr_y (v := ?_) (a' := ?_) rfl rfl (by rfl) (fun w' hw' => ?_) ?_ ?_; rotate_left 2; (· go_simp; with_reducible rfl); (· simp only [Act.put, zzA, zz0, zzS]; rfl)))
    (first | (refine tr_off (a' := ?_) rfl rfl (by rfl) ?_ ?_; rotate_left 1; (· simp only [Act.put, zzA, zz0, zzS]; rfl)) | (refine tr_y (v := ?_) (a' := ?_) rfl rfl (by rfl) (fun w' hw' => ?_) ?_ ?_; rotate_left 2; (· go_simp; with_reducible rfl); (· simp only [Act.put, zzA, zz0, zzS]; rfl)))
    (first | (refine tr_off (a' := ?_) rfl rfl (by rfl) ?_ ?_; rotate_left 1; (· simp only [Act.put, zzA, zz0, zzS]; rfl)) | (refine tr_y (v := ?_) (a' := ?_) rfl rfl (by rfl) (fun w' hw' => ?_) ?_ ?_; rotate_left 2; (· go_simp; with_reducible rfl); (· simp only [Act.put, zzA, zz0, zzS]; rfl)))
    (first | (refine tr_off (a' := ?_) rfl rfl (by rfl) ?_ ?_; rotate_left 1; (· simp only [Act.put, zzA, zz0, zzS]; rfl)) | (refine tr_y (v := ?_) (a' := ?_) rfl rfl (by rfl) (fun w' hw' => ?_) ?_ ?_; rotate_left 2; (· go_simp; with_reducible rfl); (· simp only [Act.put, zzA, zz0, zzS]; rfl)))
    (first | (refine tr_off (a' := ?_) rfl rfl (by rfl) ?_ ?_; rotate_left 1; (· simp only [Act.put, zzA, zz0, zzS]; rfl)) | (refine tr_y (v := ?_) (a' := ?_) rfl rfl (by rfl) (fun w' hw' => ?_) ?_ ?_; rotate_left 2; (· go_simp; with_reducible rfl); (· simp only [Act.put, zzA, zz0, zzS]; rfl)))
    refine tr_end ?_
    refine NoPanic.normal ?_
    go_upto_region 8 with fail
    have a39 := xr39 _ hYa9
    obtain ⟨b4, e4⟩ : ∃ b, decide ((4 : Int) < (m : Int)) = b := ⟨_, rfl⟩
    have e4' : decide (4 < m) = b4 := by rw [← e4]; apply decide_eq_decide.2; omega
    cases b4
    rotate_left 1
    · have h4 : 4 < m := by simpa using e4'
      go_wp2_with fail
      go_ret
      exact ⟨ret_int (by rw [HC.out]; simp [*]), hE.trans hYa9⟩
    have h4 : ¬ 4 < m := by simpa using e4'
    have lq1 := l1 _ hYa9
    have hlq := hlk _ (hE.trans hYa9)
    rcases HLX.out with ⟨h6, rfl⟩ | ⟨h6, hlk2⟩
    · have h6p : 6 < p := by first | exact h6 | (rw [← HP.out]; exact h6)
      go_wp2_with (first | (refine wpList_load_w (by rfl) rfl ?_ lq1 ?_; (· rfl)) | (go_at_call 65; (with_reducible refine hlq.mono ?_); rintro e w8 ⟨rfl, hE8⟩))
      have hY8 := Ext.trans hYa9 hE8
      go_ret
      exact ⟨ret_int (by rw [HC.out]; simp [*]), hE.trans hY8⟩
    have h6p : ¬ 6 < p := by first | exact h6 | (rw [← HP.out]; exact h6)
    have hl3 : (lk == 3) = false := by rcases hlk2 with ⟨_, rfl⟩ | ⟨_, rfl⟩ <;> rfl
    go_upto_region 10 with (first | (refine wpList_load_w (by rfl) rfl ?_ lq1 ?_; (· rfl)) | (go_at_call 65; (with_reducible refine hlq.mono ?_); rintro e w8 ⟨rfl, hE8⟩))
    have hY8 := Ext.trans hYa9 hE8
    have HK2 := Lib.hid hlk2
    clear hlk2 lq1 hlq a39 h6
    go_wp2_with fail
    go_loopw [4] (fun i wr => ∃ j : Nat, j ≤ m ∧ i = .int .i64 j ∧ (∀ x ∈ c.bodies.take j, longB x = false) ∧ Ext W wr) (fun i _ => m - (intOf i).toNat)
    case atStart => exact ⟨0, by omega, rfl, (fun x hx => by simp at hx), hY8⟩
    case round =>
      obtain ⟨j, hjm, rfl, hall, hwr⟩ := hrel
      have a39 := xr39 _ hwr
      have HA := Lib.hid hall
      clear hall
      by_cases hlt : j < m
      · obtain ⟨bb, oo, A1, c1, rfl, z0, h1c, h1S⟩ := n_get (hSW _ hwr) j hlt
        have hml := HM.out
        have ht : c.bodies.take (j + 1) = c.bodies.take j ++ [c.bodies[j]'(by omega)] := List.take_succ_eq_append_getElem (by omega)
        have hmem : c.bodies[j]'(by omega) ∈ c.bodies := List.getElem_mem _
        generalize c.bodies[j]'(by omega) = x at *
        have HT := Lib.hid ht
        have HME := Lib.hid hmem
        obtain ⟨nx, hnx⟩ : ∃ n, x.length = n := ⟨_, rfl⟩
        rw [hnx] at z0
        have HNX := Lib.hid hnx
        clear h1S ht hmem hnx hml h1c
        by_cases hlx : 256 < nx
        · have hb : b1 = true := by
            rw [← HB1.out, List.any_eq_true]
            exact ⟨x, HME.out, by unfold longB; rw [HNX.out]; simpa using hlx⟩
          go_wp2_with fail
          go_ret
          exact ⟨ret_int (by rw [HC.out]; simp [*]), hE.trans hwr⟩
        · go_wp2_with fail
          go_roundw
          case rel =>
            refine ⟨j + 1, by omega, by go_num, fun y hy => ?_, hwr⟩
            rw [HT.out, List.mem_append, List.mem_singleton] at hy
            rcases hy with hy | rfl
            · exact HA.out y hy
            · unfold longB; rw [HNX.out]; simpa using hlx
          case measure => simp [intOf]; omega
      · obtain rfl : j = m := by omega
        have hb : b1 = false := by
          rw [← HB1.out, List.any_eq_false]
          intro x hx
          have := HA.out x (by rw [List.take_of_length_le (by rw [HM.out]; omega)]; exact hx)
          rw [this]; decide
        have lq1 := l1 _ hwr
        have hlq := hlk _ (hE.trans hwr)
        rcases HK2.out with ⟨hb2, rfl⟩ | ⟨hb2, rfl⟩
        · go_wp2_with (first | (refine wpList_load_by rfl rfl ?_ lq1 ?_; (· rfl)) | (go_at_call 65; (with_reducible refine hlq.mono ?_); rintro e w9 ⟨rfl, hE9⟩))
          have hY9 := hwr.trans hE9
          go_ret
          exact ⟨ret_int (by rw [HC.out]; simp [*]), hE.trans hY9⟩
        go_upto_region 17 with (first | (refine wpList_load_by rfl rfl ?_ lq1 ?_; (· rfl)) | (go_at_call 65; (with_reducible refine hlq.mono ?_); rintro e w9 ⟨rfl, hE9⟩))
        have hY9 := hwr.trans hE9
        cases f6
        · go_upto_region 19 with (go_at_call 63; (with_reducible refine (hr6 _).mono ?_); rintro e w10 ⟨rfl, hE10⟩)
          have hY10 := hY9.trans hE10
          have lq0 := l0 _ hY10
          have hf := hfg _ (hE.trans hY10)
          cases fo
          · go_wp2_with (first | (refine wpList_load_by rfl rfl ?_ lq0 ?_; (· rfl)) | (go_at_call 67; (with_reducible refine hf.mono ?_); rintro e w13 ⟨rfl, hE13⟩))
            have hY13 := Ext.trans hY10 hE13
            go_ret
            exact ⟨ret_int (by rw [HC.out]; simp [*]), hE.trans hY13⟩
          · go_wp2_with (first | (refine wpList_load_by rfl rfl ?_ lq0 ?_; (· rfl)) | (go_at_call 67; (with_reducible refine hf.mono ?_); rintro e w13 ⟨rfl, hE13⟩))
            have hY13 := Ext.trans hY10 hE13
            go_ret
            exact ⟨ret_int (by rw [HC.out]; simp [*]), hE.trans hY13⟩
        by_cases hgz : gv = 0
        · go_upto_region 19 with (first | (go_at_call 63; (with_reducible refine (hr6 _).mono ?_); rintro e w10 ⟨rfl, hE10⟩; have hY10 := hY9.trans hE10; have lq8 := l8 _ hY10) | (refine wpList_load_w (by rfl) rfl ?_ lq8 ?_; (· rfl)) | (go_at_call 66; (with_reducible refine (hgc _).mono ?_); rintro e w11 ⟨rfl, hE11⟩))
          have hY11 := hY10.trans hE11
          have lq0 := l0 _ hY11
          have hf := hfg _ (hE.trans hY11)
          cases fo
          · go_wp2_with (first | (refine wpList_load_by rfl rfl ?_ lq0 ?_; (· rfl)) | (go_at_call 67; (with_reducible refine hf.mono ?_); rintro e w13 ⟨rfl, hE13⟩))
            have hY13 := Ext.trans hY11 hE13
            go_ret
            exact ⟨ret_int (by rw [HC.out]; simp [*]), hE.trans hY13⟩
          · go_wp2_with (first | (refine wpList_load_by rfl rfl ?_ lq0 ?_; (· rfl)) | (go_at_call 67; (with_reducible refine hf.mono ?_); rintro e w13 ⟨rfl, hE13⟩))
            have hY13 := Ext.trans hY11 hE13
            go_ret
            exact ⟨ret_int (by rw [HC.out]; simp [*]), hE.trans hY13⟩
        · have hgz2 : (gv != 0) = true := by simpa using hgz
          go_wp2_with (first | (go_at_call 63; (with_reducible refine (hr6 _).mono ?_); rintro e w10 ⟨rfl, hE10⟩; have hY10 := hY9.trans hE10; have lq8 := l8 _ hY10) | (refine wpList_load_w (by rfl) rfl ?_ lq8 ?_; (· rfl)) | (go_at_call 66; (with_reducible refine (hgc _).mono ?_); rintro e w11 ⟨rfl, hE11⟩; have hY11 := hY10.trans hE11; have lq9 := l8 _ hY11) | (refine wpList_load_by rfl rfl ?_ lq9 ?_; (· rfl)) | (go_at_call 66; (with_reducible refine (hgc _).mono ?_); rintro e w12 ⟨rfl, hE12⟩))
          have hY12 := hY11.trans hE12
          go_ret
          exact ⟨ret_int (by rw [HC.out]; simp [*]), hE.trans hY12⟩
end Go.Proofs.YtgfhbachgniipaaGreatDoor

namespace Go.Proofs.YtgfhbachgniipaaGreatDoor
open Go.RowKit
set_option maxHeartbeats 9000000 in
set_option maxRecDepth 100000 in
theorem rcput_any (w : World) (c : Cmd) (a b : Value) (hG : GsV w c.tok.gs a) (hD : BsV w c.bodies b) (hf : CmdFitL c) :
    Calls Tryz.prog 13 #[.agg (cmdA c a b)] w (PutC w c) := by
  have hck := fun (w' : World) (e : Ext w w') => rcmdCheck_any w' c a b (hG.ext e) (hD.ext e) hf.len
  obtain ⟨D, cb, rfl, hcb, hS⟩ := id hD
  obtain ⟨n, hn⟩ : ∃ n, c.bodies.length = n := ⟨_, rfl⟩
  rw [hn] at hS hcb hck ⊢
  obtain ⟨W, hW, hE, bx⟩ := box1 w (cmdA c a (.slice D n cb)) 31
  have B1 : Blk W w.heap.size 31 (cmdA c a (.slice D n cb)) := by rw [hW]; exact Blk.new _ _ _
  have l0 := load_whole B1 31 _ Tryz.underlying31 rfl (by kernel_rfl)
  have l1 := fun (w' : World) (e : Ext W w') => load_part (B1.ext e) 1 (tokA c.tok a) [.int .i64 c.kind] [.string c.st, .string c.su, .int .i64 c.ex, (.slice D n cb), .int .i64 c.fr, .int .i64 c.ct, .int .i64 c.gr.r, .string c.gr.p, .bool c.gr.x, .int .i64 c.gr.u, .int .i64 c.id] rfl rfl 26 _ Tryz.underlying26 rfl (by kernel_rfl)
  have x0 : W.cell? ⟨w.heap.size, 0, none⟩ = some (.int .i64 c.kind) := bx 0 _ rfl
  have xr0 := fun (w' : World) (h : Ext W w') => h.cellk x0
  clear x0
  have x36 : W.cell? ⟨w.heap.size, 36, none⟩ = some (.string c.st) := bx 36 _ rfl
  have xr36 := fun (w' : World) (h : Ext W w') => h.cellk x36
  clear x36
  have x37 : W.cell? ⟨w.heap.size, 37, none⟩ = some (.string c.su) := bx 37 _ rfl
  have xr37 := fun (w' : World) (h : Ext W w') => h.cellk x37
  clear x37
  have x38 : W.cell? ⟨w.heap.size, 38, none⟩ = some (.int .i64 c.ex) := bx 38 _ rfl
  have xr38 := fun (w' : World) (h : Ext W w') => h.cellk x38
  clear x38
  have x39 : W.cell? ⟨w.heap.size, 39, none⟩ = some (.slice D n cb) := bx 39 _ rfl
  have xr39 := fun (w' : World) (h : Ext W w') => h.cellk x39
  clear x39
  have x40 : W.cell? ⟨w.heap.size, 40, none⟩ = some (.int .i64 c.fr) := bx 40 _ rfl
  have xr40 := fun (w' : World) (h : Ext W w') => h.cellk x40
  clear x40
  have x41 : W.cell? ⟨w.heap.size, 41, none⟩ = some (.int .i64 c.ct) := bx 41 _ rfl
  have xr41 := fun (w' : World) (h : Ext W w') => h.cellk x41
  clear x41
  have x42 : W.cell? ⟨w.heap.size, 42, none⟩ = some (.int .i64 c.gr.r) := bx 42 _ rfl
  have xr42 := fun (w' : World) (h : Ext W w') => h.cellk x42
  clear x42
  have x43 : W.cell? ⟨w.heap.size, 43, none⟩ = some (.string c.gr.p) := bx 43 _ rfl
  have xr43 := fun (w' : World) (h : Ext W w') => h.cellk x43
  clear x43
  have x44 : W.cell? ⟨w.heap.size, 44, none⟩ = some (.bool c.gr.x) := bx 44 _ rfl
  have xr44 := fun (w' : World) (h : Ext W w') => h.cellk x44
  clear x44
  have x45 : W.cell? ⟨w.heap.size, 45, none⟩ = some (.int .i64 c.gr.u) := bx 45 _ rfl
  have xr45 := fun (w' : World) (h : Ext W w') => h.cellk x45
  clear x45
  have x46 : W.cell? ⟨w.heap.size, 46, none⟩ = some (.int .i64 c.id) := bx 46 _ rfl
  have xr46 := fun (w' : World) (h : Ext W w') => h.cellk x46
  clear x46
  have hGW := fun (w' : World) (e : Ext W w') => hG.ext (hE.trans e)
  obtain ⟨P, hP⟩ : ∃ P, PutC w c = P := ⟨_, rfl⟩
  obtain ⟨v, hv⟩ : ∃ v, cmdG c = v := ⟨_, rfl⟩
  rw [hv] at hck
  rw [hP]
  have HP := Lib.hid hP
  have HV := Lib.hid hv
  have HL := Lib.hid hn
  have hn100 : n ≤ 100 := by rw [← hn]; exact hf.m
  have hB : w.heap.size ≤ W.heap.size := hE.le
  have htp := fun (N' : Nat) (w' : World) (v' : Value) (L' : List UInt8) (h1 : Buf N' w' v' L') (h2 : N' ≤ 500000000) (e : Ext W w') => @rputL N' w' v' L' h1 w.heap.size (Nat.le_trans hB e.le) h2 c.tok hf.tok a (hGW w' e)
  generalize hC : cmdA c a (.slice D n cb) = C at *
  generalize tokA c.tok a = T at *
  clear hP hv hn hG hD B1 bx hC
  by_cases h0 : v = 0
  · have h0' : (v != 0) = false := by simpa using h0
    have hz : cmdG c = 0 := HV.out.trans h0
    subst h0
    go_enter Tryz.func13, Tryz.ntmps13
    go_upto_region 1 with fail
    rw [← hW]
    clear hW
    go_upto_region 4 with (first | (refine wpList_load_by rfl rfl ?_ l0 ?_; (· rfl)) | (go_at_call 15; (with_reducible refine (hck _ hE).mono ?_); rintro e w1 ⟨rfl, hE1⟩))
    clear l0 hck
    apply key4 (F := fun (g15 : Nat) (u16 u19 : Value) (wx : World) => OwnN w.heap.size 110500000 wx u19 (num8 c.kind ++ tokB c.tok) ∧ Ext W wx)
    · intro key
      refine wp_region_noPanic ?_
      refine tr_start (.y 0 (.y 1 (.y 4 (.y 5 (.e 2 (.e 3 (.e 6 (.y 7 .nil)))))))) (fun w' => Ext W w') (by kernel_rfl) (by as_aux_lemma => kernel_rfl) (fun _ _ _ _ _ h => h) (by (repeat (first | assumption | exact Ext.refl _ | refine Ext.drew ?_ | refine Ext.alloc ?_ _ | refine Ext.drewN ?_ _ | refine Ext.trans ?_ (by assumption)))) ?_
      have e0 : Ext w1 w1.drew := (Ext.refl _).drew
      generalize w1.drew = q0 at e0 ⊢
      have hY0 := hE1.trans e0
      (first | (refine tr_off (a' := ?_) rfl rfl (by rfl) ?_ ?_; rotate_left 1; (· simp only [Act.put, zzA, zz0, zzS]; rfl)) | (refine tr_y (v := ?_) (a' := ?_) rfl rfl (by rfl) (fun w' hw' => ?_) ?_ ?_; rotate_left 2; (· go_simp; with_reducible rfl); (· simp only [Act.put, zzA, zz0, zzS]; rfl)))
      (first | (refine tr_off (a' := ?_) rfl rfl (by rfl) ?_ ?_; rotate_left 1; (· simp only [Act.put, zzA, zz0, zzS]; rfl)) | (refine tr_y (v := ?_) (a' := ?_) rfl rfl (by rfl) (fun w' hw' => ?_) ?_ ?_; rotate_left 2; (· go_simp; with_reducible rfl); (· simp only [Act.put, zzA, zz0, zzS]; rfl)))
      (first | (refine tr_off (a' := ?_) rfl rfl (by rfl) ?_ ?_; rotate_left 1; (· simp only [Act.put, zzA, zz0, zzS]; rfl)) | (refine tr_y (v := ?_) (a' := ?_) rfl rfl (by rfl) (fun w' hw' => ?_) ?_ ?_; rotate_left 2; (· go_simp; with_reducible rfl); (· simp only [Act.put, zzA, zz0, zzS]; rfl)))
      refine tr_y (v := ?_) (a' := ?_) rfl rfl (by rfl) (fun w' hw' => ?_) ?_ ?_
      rotate_left 2
      · (refine (run_op_load rfl ?_ (l1 w' hw')).trans ?_; (· rfl); (· with_reducible rfl))
      · simp only [Act.put, zzA, zz0, zzS]; rfl
      have b15 := Blk.new q0 3 #[.int .i64 c.kind]
      have e1 : Ext q0 (q0.alloc (.cells #[.int .i64 c.kind] 3)) := (Ext.refl _).alloc _
      have hY1 := hY0.trans e1
      refine tr_value (v := ?_) (w1 := ?_) (a' := ?_) rfl rfl (by rfl) ?_ ?_ ?_ ?_
      rotate_left 3
      · go_simp; refine ⟨?_, ?_⟩ <;> with_reducible rfl
      · exact hY1
      · simp only [Act.put, zzA, zz0, zzS]; rfl
      generalize q0.alloc (.cells #[.int .i64 c.kind] 3) = q1 at b15 e1 hY1 ⊢
      generalize q0.heap.size = g15 at b15 ⊢
      refine tr_call (args := ?_) rfl Tryz.func51 (by kernel_rfl) rfl (by rfl) rfl rfl ?_ ?_
      rotate_left 1
      · go_simp; rfl
      (with_reducible refine (rints1 (Buf.nil _) w.heap.size (Nat.le_trans hB (Ext.le hY1)) (by decide) c.kind b15).mono ?_)
      rintro e q2 ⟨u16, rfl, hO16, e2⟩
      have hY2 := hY1.trans e2
      refine ⟨_, _, rfl, hY2, (by simp only [Act.put, zzA, zz0, zzS]; rfl), ?_⟩
      refine tr_call (args := ?_) rfl Tryz.func50 (by kernel_rfl) rfl (by rfl) rfl rfl ?_ ?_
      rotate_left 1
      · go_simp; rfl
      (with_reducible refine (htp _ _ _ _ hO16.buf (by decide) hY2).mono ?_)
      rintro e q3 ⟨u19, rfl, hO19, e3⟩
      have hY3 := hY2.trans e3
      refine ⟨_, _, rfl, hY3, (by simp only [Act.put, zzA, zz0, zzS]; rfl), ?_⟩
      (first | (refine tr_off (a' := ?_) rfl rfl (by rfl) ?_ ?_; rotate_left 1; (· simp only [Act.put, zzA, zz0, zzS]; rfl)) | (refine tr_y (v := ?_) (a' := ?_) rfl rfl (by rfl) (fun w' hw' => ?_) ?_ ?_; rotate_left 2; (· go_simp; with_reducible rfl); (· simp only [Act.put, zzA, zz0, zzS]; rfl)))
      refine tr_end ?_
      (refine NoPanic.normal ?_; exact key g15 u16 u19 q3 ⟨(hO19.re (by simp)).wide (by decide), hY3⟩)
    intro g15 u16 u19 wx hkey
    obtain ⟨hO4, hY4⟩ := hkey
    go_upto_region 5 with fail
    refine wp_region_noPanic ?_
    refine tr_start (.y 0 (.y 1 (.y 2 (.y 4 (.y 5 (.e 3 (.e 6 (.y 7 .nil)))))))) (fun w' => Ext W w') (by kernel_rfl) (by as_aux_lemma => kernel_rfl) (fun _ _ _ _ _ h => h) (by (repeat (first | assumption | exact Ext.refl _ | refine Ext.drew ?_ | refine Ext.alloc ?_ _ | refine Ext.drewN ?_ _ | refine Ext.trans ?_ (by assumption)))) ?_
    have ea0 : Ext wx wx.drew := (Ext.refl _).drew
    generalize wx.drew = qa0 at ea0 ⊢
    have hYa0 := hY4.trans ea0
    (first | (refine tr_off (a' := ?_) rfl rfl (by rfl) ?_ ?_; rotate_left 1; (· simp only [Act.put, zzA, zz0, zzS]; rfl)) | (refine tr_y (v := ?_) (a' := ?_) rfl rfl (by rfl) (fun w' hw' => ?_) ?_ ?_; rotate_left 2; (· go_simp; with_reducible rfl); (· simp only [Act.put, zzA, zz0, zzS]; rfl)))
    (first | (refine tr_off (a' := ?_) rfl rfl (by rfl) ?_ ?_; rotate_left 1; (· simp only [Act.put, zzA, zz0, zzS]; rfl)) | (refine tr_y (v := ?_) (a' := ?_) rfl rfl (by rfl) (fun w' hw' => ?_) ?_ ?_; rotate_left 2; (· go_simp; with_reducible rfl); (· simp only [Act.put, zzA, zz0, zzS]; rfl)))
    (first | (refine tr_off (a' := ?_) rfl rfl (by rfl) ?_ ?_; rotate_left 1; (· simp only [Act.put, zzA, zz0, zzS]; rfl)) | (refine tr_y (v := ?_) (a' := ?_) rfl rfl (by rfl) (fun w' hw' => ?_) ?_ ?_; rotate_left 2; (· go_simp; with_reducible rfl); (· simp only [Act.put, zzA, zz0, zzS]; rfl)))
    (first | (refine tr_off (a' := ?_) rfl rfl (by rfl) ?_ ?_; rotate_left 1; (· simp only [Act.put, zzA, zz0, zzS]; rfl)) | (refine tr_y (v := ?_) (a' := ?_) rfl rfl (by rfl) (fun w' hw' => ?_) ?_ ?_; rotate_left 2; (· go_simp; with_reducible rfl); (· simp only [Act.put, zzA, zz0, zzS]; rfl)))
    (first | (refine tr_off (a' := ?_) rfl rfl (by rfl) ?_ ?_; rotate_left 1; (· simp only [Act.put, zzA, zz0, zzS]; rfl)) | (refine tr_y (v := ?_) (a' := ?_) rfl rfl (by rfl) (fun w' hw' => ?_) ?_ ?_; rotate_left 2; (· go_simp; with_reducible rfl); (· simp only [Act.put, zzA, zz0, zzS]; rfl)))
    refine tr_call (args := ?_) rfl Tryz.func52 (by kernel_rfl) rfl (by rfl) rfl rfl ?_ ?_
    rotate_left 1
    · go_simp; rfl
    (with_reducible refine (rtextL (hO4.ext ea0).buf (by decide) w.heap.size (Nat.le_trans hB (Ext.le hYa0)) c.st hf.st).mono ?_)
    rintro e qa1 ⟨u23, rfl, hO23, ea1⟩
    have hYa1 := hYa0.trans ea1
    refine ⟨_, _, rfl, hYa1, (by simp only [Act.put, zzA, zz0, zzS]; rfl), ?_⟩
    refine tr_call (args := ?_) rfl Tryz.func52 (by kernel_rfl) rfl (by rfl) rfl rfl ?_ ?_
    rotate_left 1
    · go_simp; rfl
    (with_reducible refine (rtextL hO23.buf (by decide) w.heap.size (Nat.le_trans hB (Ext.le hYa1)) c.su hf.su).mono ?_)
    rintro e qa2 ⟨u26, rfl, hO26, ea2⟩
    have hYa2 := hYa1.trans ea2
    refine ⟨_, _, rfl, hYa2, (by simp only [Act.put, zzA, zz0, zzS]; rfl), ?_⟩
    (first | (refine tr_off (a' := ?_) rfl rfl (by rfl) ?_ ?_; rotate_left 1; (· simp only [Act.put, zzA, zz0, zzS]; rfl)) | (refine tr_y (v := ?_) (a' := ?_) rfl rfl (by rfl) (fun w' hw' => ?_) ?_ ?_; rotate_left 2; (· go_simp; with_reducible rfl); (· simp only [Act.put, zzA, zz0, zzS]; rfl)))
    refine tr_end ?_
    refine NoPanic.normal ?_
    have z38 := xr38 _ hYa2
    have z39 := xr39 _ hYa2
    have hOa := (hO26.re (L' := num8 c.kind ++ (tokB c.tok ++ (txtB c.st ++ txtB c.su))) (by simp)).wide (N' := 112700000) (by decide)
    have hi6 := fun (w' : World) (g : Nat) (bk : Blk w' g 3 #[.int .i64 c.ex, .int .i64 n]) (e : Ext qa2 w') => rints2 (hOa.ext e).buf w.heap.size (Nat.le_trans hB (Nat.le_trans hYa2.le e.le)) (by decide) c.ex n bk
    clear hO4 hO23 hO26
    go_upto_region 7 with (go_at_call 51; (with_reducible refine (hi6 _ _ (Blk.new _ _ _) ((Ext.refl _).alloc _)).mono ?_); rintro e w5 ⟨v5, rfl, hO5, hE5⟩)
    have hY5 := hYa2.trans (((Ext.refl _).alloc (.cells #[.int .i64 c.ex, .int .i64 n] 3)).trans hE5)
    have hO5 := (hO5.re (L' := num8 c.kind ++ (tokB c.tok ++ (txtB c.st ++ (txtB c.su ++ (num8 c.ex ++ num8 n))))) (by simp)).wide (N' := 112800000) (by decide)
    clear hi6 hOa z38 z39
    go_wp2_with fail
    go_loopw [5, 6] (fun s i wr => ∃ k : Nat, k ≤ n ∧ i = .int .i64 k ∧ OwnN w.heap.size (112800000 + 1048584 * k) wr s (num8 c.kind ++ (tokB c.tok ++ (txtB c.st ++ (txtB c.su ++ (num8 c.ex ++ (num8 n ++ (c.bodies.take k).flatMap blobB)))))) ∧ Ext W wr) (fun _ i _ => n - (intOf i).toNat)
    case atStart => exact ⟨0, by omega, rfl, by simpa using hO5, hY5⟩
    case round =>
      clear hO5 hY5
      obtain ⟨k, hkn, rfl, hO, hwr⟩ := hrel
      have z39 := xr39 _ hwr
      by_cases hlt : k < n
      · obtain ⟨bb, o, A1, c1, rfl, x0, h1c, h1S⟩ := n_get (hS.ext (hE.trans hwr)) k hlt
        have hl := HL.out
        have hn := hf.m
        have hone := blobs_one c.bodies k (by omega)
        have hxm := hf.x _ (List.getElem_mem (l := c.bodies) (n := k) (by omega))
        generalize c.bodies[k]'(by omega) = x at *
        have hbl := (rblobL hO.buf (by omega) w.heap.size (Nat.le_trans hB hwr.le) A1 c1 x h1S h1c hxm).mono (R' := fun e9 w9 => ∃ u, e9 = .returned u ∧ OwnN w.heap.size (112800000 + 1048584 * (k + 1)) w9 u (num8 c.kind ++ (tokB c.tok ++ (txtB c.st ++ (txtB c.su ++ (num8 c.ex ++ (num8 n ++ (c.bodies.take (k + 1)).flatMap blobB)))))) ∧ Ext wr w9) (by rintro e9 w9 ⟨u, rfl, h1, h2⟩; exact ⟨u, rfl, (h1.re (by rw [hone]; simp)).wide (by omega), h2⟩)
        obtain ⟨nx, hnx⟩ : ∃ nx, x.length = nx := ⟨_, rfl⟩
        rw [hnx] at x0 hbl
        clear hS h1S hone hxm hl hO hnx h1c
        go_wp2_with (go_at_call 53; (with_reducible refine hbl.mono ?_); rintro e w9 ⟨v9, rfl, hO9, hE9⟩)
        go_roundw
        case rel => exact ⟨k + 1, by omega, by go_num, hO9, hwr.trans hE9⟩
        case measure => simp [intOf]; omega
      · obtain rfl : k = n := by omega
        have hn := hf.m
        have htk : c.bodies.take k = c.bodies := List.take_of_length_le (by rw [HL.out]; omega)
        rw [htk] at hO
        have hl := HL.out
        have hO := hO.wide (N' := 218000000) (by omega)
        have z40 := xr40 _ hwr
        have z41 := xr41 _ hwr
        have z42 := xr42 _ hwr
        have hi9 := fun (w' : World) (g : Nat) (bk : Blk w' g 3 #[.int .i64 c.fr, .int .i64 c.ct, .int .i64 c.gr.r]) (e : Ext wr w') => rints3 (hO.ext e).buf w.heap.size (Nat.le_trans hB (Nat.le_trans hwr.le e.le)) (by decide) c.fr c.ct c.gr.r bk
        clear hS htk
        go_upto_region 12 with (go_at_call 51; (with_reducible refine (hi9 _ _ (Blk.new _ _ _) ((Ext.refl _).alloc _)).mono ?_); rintro e w7 ⟨v7, rfl, hO7, hE7⟩)
        have hY7 := hwr.trans (((Ext.refl _).alloc (.cells #[.int .i64 c.fr, .int .i64 c.ct, .int .i64 c.gr.r] 3)).trans hE7)
        have z43 := xr43 _ hY7
        have ht8 := rtextL hO7.buf (by decide) w.heap.size (Nat.le_trans hB hY7.le) c.gr.p hf.gp
        clear hi9 z40 z41 z42 z39
        go_upto_region 13 with (go_at_call 52; (with_reducible refine ht8.mono ?_); rintro e w8 ⟨v8, rfl, hO8, hE8⟩)
        have hY8 := hY7.trans hE8
        have z44 := xr44 _ hY8
        have z45 := xr45 _ hY8
        have z46 := xr46 _ hY8
        clear ht8 z43
        cases hgx : c.gr.x
        · rw [hgx] at z44
          have hlast := fun (w' : World) (g : Nat) (bk : Blk w' g 3 #[.int .i64 0, .int .i64 c.gr.u, .int .i64 c.id]) (e : Ext w8 w') => rints3 (hO8.ext e).buf w.heap.size (Nat.le_trans hB (Nat.le_trans hY8.le e.le)) (by decide) 0 c.gr.u c.id bk
          go_wp2_with (go_at_call 51; (with_reducible refine (hlast _ _ (Blk.new _ _ _) ((Ext.refl _).alloc _)).mono ?_); rintro e w9 ⟨v9, rfl, hO99, hE9⟩)
          rw [← HP.out]
          refine ⟨fun h => absurd hz h, fun _ => ⟨v9, rfl, ?_⟩, hE.trans (hY8.trans (((Ext.refl _).alloc _).trans hE9))⟩
          exact (hO99.re (by simp [cmdB, gB, hgx, b2i, HL.out])).wide (by decide)
        · rw [hgx] at z44
          have hlast := fun (w' : World) (g : Nat) (bk : Blk w' g 3 #[.int .i64 1, .int .i64 c.gr.u, .int .i64 c.id]) (e : Ext w8 w') => rints3 (hO8.ext e).buf w.heap.size (Nat.le_trans hB (Nat.le_trans hY8.le e.le)) (by decide) 1 c.gr.u c.id bk
          go_wp2_with (go_at_call 51; (with_reducible refine (hlast _ _ (Blk.new _ _ _) ((Ext.refl _).alloc _)).mono ?_); rintro e w9 ⟨v9, rfl, hO99, hE9⟩)
          rw [← HP.out]
          refine ⟨fun h => absurd hz h, fun _ => ⟨v9, rfl, ?_⟩, hE.trans (hY8.trans (((Ext.refl _).alloc _).trans hE9))⟩
          exact (hO99.re (by simp [cmdB, gB, hgx, b2i, HL.out])).wide (by decide)
  · have h0' : (v != 0) = true := by simpa using h0
    go_enter Tryz.func13, Tryz.ntmps13
    go_upto_region 1 with fail
    rw [← hW]
    clear hW
    go_wp2_with (first | (refine wpList_load_by rfl rfl ?_ l0 ?_; (· rfl)) | (go_at_call 15; (with_reducible refine (hck _ hE).mono ?_); rintro e w1 ⟨rfl, hE1⟩))
    rw [← HP.out]
    exact ⟨fun _ => by rw [HV.out]; rfl, fun h => absurd (HV.out.symm.trans h) h0, hE.trans hE1⟩
end Go.Proofs.YtgfhbachgniipaaGreatDoor
