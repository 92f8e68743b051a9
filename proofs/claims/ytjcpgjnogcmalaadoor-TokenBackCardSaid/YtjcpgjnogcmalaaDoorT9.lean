/- known of the statements on tokens. (and what follows) -/
import Derived.Test.YtjcpgjnogcmalaaDoorT8
import Derived.Test.YtjcpgjnogcmalaaDoorT4
/-! known of the statements on tokens. -/
namespace Go.Proofs.YtjcpgjnogcmalaaDoor
set_option linter.unusedVariables false
set_option linter.unusedSimpArgs false
open Go.RowKit
def key1 : List UInt8 := 1 :: List.replicate 31 0
def annS : ByteArray := ⟨#[97, 110, 110]⟩
def kg0 : Grant := ⟨3, ⟨#[111, 112, 101, 110]⟩, false, 0⟩
def kg1 : Grant := ⟨1, ⟨#[111, 112, 101, 110, 46, 108, 111, 103]⟩, true, 0⟩
def kg2 : Grant := ⟨7, ⟨#[111, 112, 101, 110]⟩, false, 0⟩
def kt0 : Tok := (mintG key1 annS 7 kg0).1
theorem kt0_e : (mintG key1 annS 7 kg0).2 = 0 := by
  have h1 : placedG annS 7 = 0 := by rfl
  have h2 : gChk kg0 = 0 := by kernel_rfl
  unfold mintG
  rw [if_neg (by simp [h1]), if_neg (by simp [h2])]
theorem kt0_is : kt0 = ⟨annS, 7, [kg0], chain key1 ⟨annS, 7, [kg0], zMac⟩⟩ := (mint_verifies key1 annS 7 kg0 kt0_e).2.2
def kt1 : Tok := (attG kt0 kg1).1
theorem kt0_last : lastG kt0 = kg0 := by rw [kt0_is]; rfl
theorem kt0_len : kt0.gs.length = 1 := by rw [kt0_is]; rfl
theorem kt1_e : (attG kt0 kg1).2 = 0 := by
  have h2 : gChk kg1 = 0 := by kernel_rfl
  have h3 : gNar kg0 kg1 = true := by kernel_rfl
  unfold attG
  rw [kt0_len, kt0_last, if_neg (by decide), if_neg (by decide), if_neg (by simp [h2]), if_neg (by simp [h3])]
theorem kt2_e : attG kt0 kg2 = (zTok, 25) := by
  have h2 : gChk kg2 = 0 := by kernel_rfl
  have h3 : gNar kg0 kg2 = false := by kernel_rfl
  unfold attG
  rw [kt0_len, kt0_last, if_neg (by decide), if_neg (by decide), if_neg (by simp [h2]), if_pos h3]
theorem kt0_v : verifyG key1 kt0 = 0 := (mint_verifies key1 annS 7 kg0 kt0_e).1
theorem kt1_v : verifyG key1 kt1 = 0 := (att_verifies key1 kt0 kg1 kt0_v kt1_e).1
theorem kt1_is : kt1 = ⟨kt0.ten, kt0.id, kt0.gs ++ [kg1], macB kt0.mac (gB kg1)⟩ := (att_verifies key1 kt0 kg1 kt0_v kt1_e).2.1
theorem kt1_last : lastG kt1 = kg1 := by rw [kt1_is]; exact lastG_app _ _ _ _ _
theorem kt1_len : kt1.gs.length = 2 := by rw [kt1_is, kt0_is]; rfl
theorem kg_fit : GrFit kg0 ∧ GrFit kg1 ∧ GrFit kg2 := ⟨⟨by unfold intOk; decide, by decide, by unfold intOk; decide⟩, ⟨by unfold intOk; decide, by decide, by unfold intOk; decide⟩, ⟨by unfold intOk; decide, by decide, by unfold intOk; decide⟩⟩
theorem kt0_mac : kt0.mac.length = 32 := by rw [kt0_is]; exact chAt_len _ _ _
theorem kt1_mac : kt1.mac.length = 32 := by rw [kt1_is]; exact macB_len _ _
theorem kt0_fit : ∀ g ∈ kt0.gs, GrFit g := by rw [kt0_is]; intro g hg; simp at hg; subst hg; exact kg_fit.1
theorem kt1_fit : ∀ g ∈ kt1.gs, GrFit g := by
  rw [kt1_is]; intro g hg
  rcases List.mem_append.1 hg with h | h
  · exact kt0_fit g h
  · simp at h; subst h; exact kg_fit.2.1
theorem kt0_ten : kt0.ten.size ≤ 1048576 ∧ intOk kt0.id := by rw [kt0_is]; exact ⟨by decide, by unfold intOk; decide⟩
theorem kt1_ten : kt1.ten.size ≤ 1048576 ∧ intOk kt1.id := by rw [kt1_is]; exact kt0_ten
theorem run_buildKey {ev : Operand → Value} {o : Oper} {w : World} {x0 : Operand} (ho : o.op = .build 23 #[(0, x0)]) (h0 : ev x0 = .int .u8 1) :
    (execOp ev o).run Tryd.prog w = .ok (.value (.agg (macA key1))) w := by
  unfold execOp
  simp only [ho, h0, List.map_toArray, List.map_cons, List.map_nil]
  kernel_rfl
theorem lit_kg0 : grA kg0 = #[.int .i64 3, .string ⟨#[111, 112, 101, 110]⟩, .bool false, .int .i64 0] := rfl
theorem lit_kg1 : grA kg1 = #[.int .i64 1, .string ⟨#[111, 112, 101, 110, 46, 108, 111, 103]⟩, .bool true, .int .i64 0] := rfl
theorem lit_kg2 : grA kg2 = #[.int .i64 7, .string ⟨#[111, 112, 101, 110]⟩, .bool false, .int .i64 0] := rfl
set_option maxHeartbeats 9000000 in
set_option maxRecDepth 100000 in
theorem known_walk (w : World) (hK : KAt w) (hI : IAt w) (t0 t1 : Tok) (m0 : mintG key1 annS 7 kg0 = (t0, 0)) (m1 : attG t0 kg1 = (t1, 0)) (m2 : attG t0 kg2 = (zTok, 25)) (v0 : verifyG key1 t0 = 0) (v1 : verifyG key1 t1 = 0)
    (l1 : lastG t1 = kg1) (n0 : t0.gs.length = 1) (n1 : t1.gs.length = 2) (c0 : t0.mac.length = 32) (c1 : t1.mac.length = 32) (f0 : ∀ g ∈ t0.gs, GrFit g) (f1 : ∀ g ∈ t1.gs, GrFit g) (e0 : t0.ten.size ≤ 1048576 ∧ intOk t0.id) (e1 : t1.ten.size ≤ 1048576 ∧ intOk t1.id) :
    Calls Tryd.prog 9 #[] w fun e w' => e = .returned (.bool true) ∧ Ext w w' := by
  have hk1 : key1.length = 32 := by decide
  have hm := mint_any w key1 hk1 annS 7 kg0 (by decide) (by unfold intOk; decide) kg_fit.1 hK hI
  rw [m0, lit_kg0] at hm
  have hver0 := fun (w' : World) (h : Ext w w') (a : Value) (hG : GsV w' t0.gs a) => verify_any w' key1 hk1 t0 a hG (by omega) e0.1 e0.2 f0 c0 (hK.ext h) (hI.ext h)
  have hver1 := fun (w' : World) (h : Ext w w') (a : Value) (hG : GsV w' t1.gs a) => verify_any w' key1 hk1 t1 a hG (by omega) e1.1 e1.2 f1 c1 (hK.ext h) (hI.ext h)
  have hatt1 := fun (w' : World) (h : Ext w w') (a : Value) (hG : GsV w' t0.gs a) => att_any w' t0 a hG (by omega) c0 f0 kg1 kg_fit.2.1 (hK.ext h) (hI.ext h)
  have hatt2 := fun (w' : World) (h : Ext w w') (a : Value) (hG : GsV w' t0.gs a) => att_any w' t0 a hG (by omega) c0 f0 kg2 kg_fit.2.2 (hK.ext h) (hI.ext h)
  have hlast := fun (w' : World) (a : Value) (hG : GsV w' t1.gs a) => last_any w' t1 a hG (by omega)
  rw [v0] at hver0
  rw [v1] at hver1
  rw [m1, lit_kg1] at hatt1
  rw [m2, lit_kg2] at hatt2
  rw [l1, lit_kg1] at hlast
  obtain ⟨K, hKK⟩ : ∃ K, macA key1 = K := ⟨_, rfl⟩
  rw [hKK] at hm hver0 hver1
  have HK1 := Lib.hid hKK
  unfold annS at hm
  have hfd : ∀ w' : World, (Instr.field 35 (.agg #[.int .i64 1, .string ⟨#[111, 112, 101, 110, 46, 108, 111, 103]⟩, .bool true, .int .i64 0]) 2).run Tryd.prog w' = .ok (.bool true) w' := fun w' => by kernel_rfl
  clear m0 m1 m2 v0 v1 l1 c0 c1 f0 f1 e0 e1 hKK
  go_enter Tryd.func9, Tryd.ntmps9
  go_upto_region 1 with fail
  refine wp_region_lit ?_
  refine pl_y (a' := ?_) rfl (by rfl) (run_buildKey rfl rfl) ?_ ?_
  rotate_left 1
  · simp only [Act.put, List.setIfInBounds_toArray, List.set_cons_zero, List.set_cons_succ]; rfl
  rw [HK1.out]
  iterate 1 (first | (refine pl_off (a' := ?_) rfl (by rfl) ?_ ?_; rotate_left 1; (· simp only [Act.put, List.setIfInBounds_toArray, List.set_cons_zero, List.set_cons_succ]; rfl)) | (refine pl_y (v := ?_) (a' := ?_) rfl (by rfl) ?_ ?_ ?_; rotate_left 2; (· go_simp; with_reducible rfl); (· simp only [Act.put, List.setIfInBounds_toArray, List.set_cons_zero, List.set_cons_succ]; rfl)))
  refine pl_call (args := ?_) Tryd.func25 (by kernel_rfl) rfl (by rfl) rfl rfl ?_ ?_
  rotate_left 1
  · go_simp; with_reducible rfl
  (with_reducible refine (hm).mono ?_)
  rintro e w1 ⟨a0, rfl, hG0, hE1⟩
  refine ⟨_, _, rfl, (by simp only [Act.put, List.setIfInBounds_toArray, List.set_cons_zero, List.set_cons_succ]; rfl), ?_⟩
  have hG0 := hG0.mono only_cle
  obtain ⟨A0, q0, rfl, hq0, hS0⟩ := hG0
  obtain ⟨T0, hT0⟩ : ∃ T, tokA t0 (.slice A0 t0.gs.length q0) = T := ⟨_, rfl⟩
  have szT0 : T0.size = 35 := by rw [← hT0]; rfl
  have oneT0 : T0.all (·.oneCell') = true := by rw [← hT0]; exact one_tok _ _ rfl
  have hG0 : GsV w1 t0.gs (.slice A0 t0.gs.length q0) := ⟨A0, q0, rfl, hq0, hS0⟩
  have hat1 := fun (w' : World) (h : Ext w1 w') => hatt1 w' (hE1.trans h) _ (hG0.ext h)
  have hat2 := fun (w' : World) (h : Ext w1 w') => hatt2 w' (hE1.trans h) _ (hG0.ext h)
  have hve0 := fun (w' : World) (h : Ext w1 w') => hver0 w' (hE1.trans h) _ (hG0.ext h)
  rw [hT0] at hat1 hat2 hve0 ⊢
  clear hatt1 hatt2 hver0 hT0 hm
  iterate 3 (first | (refine pl_off (a' := ?_) rfl (by rfl) ?_ ?_; rotate_left 1; (· simp only [Act.put, List.setIfInBounds_toArray, List.set_cons_zero, List.set_cons_succ]; rfl)) | (refine pl_y (v := ?_) (a' := ?_) rfl (by rfl) ?_ ?_ ?_; rotate_left 2; (· go_simp; with_reducible rfl); (· simp only [Act.put, List.setIfInBounds_toArray, List.set_cons_zero, List.set_cons_succ]; rfl)))
  obtain ⟨w2, hst2, B2, hE2⟩ := box_row w1 27 #[.string ⟨#[]⟩, .int .i64 0, .slice none 0 0, .int .u8 0, .int .u8 0, .int .u8 0, .int .u8 0, .int .u8 0, .int .u8 0, .int .u8 0, .int .u8 0, .int .u8 0, .int .u8 0, .int .u8 0, .int .u8 0, .int .u8 0, .int .u8 0, .int .u8 0, .int .u8 0, .int .u8 0, .int .u8 0, .int .u8 0, .int .u8 0, .int .u8 0, .int .u8 0, .int .u8 0, .int .u8 0, .int .u8 0, .int .u8 0, .int .u8 0, .int .u8 0, .int .u8 0, .int .u8 0, .int .u8 0, .int .u8 0] T0 (by rw [szT0]; rfl) (by rw [szT0]; kernel_rfl) oneT0
  refine pl_v (v := ?_) (w1 := ?_) (a' := ?_) rfl (by rfl) ?_ ?_ ?_
  rotate_left 3
  · go_simp; refine ⟨?_, ?_⟩ <;> with_reducible rfl
  · simp only [Act.put, List.setIfInBounds_toArray, List.set_cons_zero, List.set_cons_succ]; rfl
  obtain ⟨g2, hg2⟩ : ∃ z, w1.heap.size = z := ⟨_, rfl⟩
  rw [hg2] at hst2 B2 ⊢
  refine pl_store (by rfl) rfl (run_op_store rfl ?_ ?_ hst2) ?_
  · rfl
  · rfl
  iterate 1 (first | (refine pl_off (a' := ?_) rfl (by rfl) ?_ ?_; rotate_left 1; (· simp only [Act.put, List.setIfInBounds_toArray, List.set_cons_zero, List.set_cons_succ]; rfl)) | (refine pl_y (v := ?_) (a' := ?_) rfl (by rfl) ?_ ?_ ?_; rotate_left 2; (· go_simp; with_reducible rfl); (· simp only [Act.put, List.setIfInBounds_toArray, List.set_cons_zero, List.set_cons_succ]; rfl)))
  refine wpList_nil ?_
  have ld2 := fun (w' : World) (h : Ext w2 w') => load_whole (B2.ext h) 27 _ Tryd.underlying27 rfl (by rw [szT0]; kernel_rfl)
  have lq := ld2 w2 (Ext.refl _)
  clear hst2
  go_upto_region 2 with fail
  refine wp_region_lit ?_
  refine pl_y (v := ?_) (a' := ?_) rfl (by rfl) ?_ ?_ ?_
  rotate_left 2
  · (refine (run_op_load rfl ?_ (lq)).trans ?_; (· rfl); (· with_reducible rfl))
  · simp only [Act.put, List.setIfInBounds_toArray, List.set_cons_zero, List.set_cons_succ]; rfl
  iterate 1 (first | (refine pl_off (a' := ?_) rfl (by rfl) ?_ ?_; rotate_left 1; (· simp only [Act.put, List.setIfInBounds_toArray, List.set_cons_zero, List.set_cons_succ]; rfl)) | (refine pl_y (v := ?_) (a' := ?_) rfl (by rfl) ?_ ?_ ?_; rotate_left 2; (· go_simp; with_reducible rfl); (· simp only [Act.put, List.setIfInBounds_toArray, List.set_cons_zero, List.set_cons_succ]; rfl)))
  refine pl_call (args := ?_) Tryd.func26 (by kernel_rfl) rfl (by rfl) rfl rfl ?_ ?_
  rotate_left 1
  · go_simp; with_reducible rfl
  (with_reducible refine (hat1 w2 hE2).mono ?_)
  rintro e w3 ⟨a3, rfl, hG3, hE3⟩
  refine ⟨_, _, rfl, (by simp only [Act.put, List.setIfInBounds_toArray, List.set_cons_zero, List.set_cons_succ]; rfl), ?_⟩
  have hG3 := hG3.mono only_cle
  obtain ⟨A3, q3, rfl, hq3, hS3⟩ := hG3
  obtain ⟨T3, hT3⟩ : ∃ T, tokA t1 (.slice A3 t1.gs.length q3) = T := ⟨_, rfl⟩
  have szT3 : T3.size = 35 := by rw [← hT3]; rfl
  have oneT3 : T3.all (·.oneCell') = true := by rw [← hT3]; exact one_tok _ _ rfl
  have hG3 : GsV w3 t1.gs (.slice A3 t1.gs.length q3) := ⟨A3, q3, rfl, hq3, hS3⟩
  have c32 : T3[2]? = some (.slice A3 2 q3) := by rw [← hT3, n1]; rfl
  have hve1 := fun (w' : World) (h : Ext w3 w') => hver1 w' (hE1.trans (hE2.trans (hE3.trans h))) _ (hG3.ext h)
  have hla1 := fun (w' : World) (h : Ext w3 w') => hlast w' _ (hG3.ext h)
  rw [hT3] at hve1 hla1 ⊢
  clear hver1 hlast hT3
  iterate 3 (first | (refine pl_off (a' := ?_) rfl (by rfl) ?_ ?_; rotate_left 1; (· simp only [Act.put, List.setIfInBounds_toArray, List.set_cons_zero, List.set_cons_succ]; rfl)) | (refine pl_y (v := ?_) (a' := ?_) rfl (by rfl) ?_ ?_ ?_; rotate_left 2; (· go_simp; with_reducible rfl); (· simp only [Act.put, List.setIfInBounds_toArray, List.set_cons_zero, List.set_cons_succ]; rfl)))
  obtain ⟨w4, hst4, B4, hE4⟩ := box_row w3 27 #[.string ⟨#[]⟩, .int .i64 0, .slice none 0 0, .int .u8 0, .int .u8 0, .int .u8 0, .int .u8 0, .int .u8 0, .int .u8 0, .int .u8 0, .int .u8 0, .int .u8 0, .int .u8 0, .int .u8 0, .int .u8 0, .int .u8 0, .int .u8 0, .int .u8 0, .int .u8 0, .int .u8 0, .int .u8 0, .int .u8 0, .int .u8 0, .int .u8 0, .int .u8 0, .int .u8 0, .int .u8 0, .int .u8 0, .int .u8 0, .int .u8 0, .int .u8 0, .int .u8 0, .int .u8 0, .int .u8 0, .int .u8 0] T3 (by rw [szT3]; rfl) (by rw [szT3]; kernel_rfl) oneT3
  refine pl_v (v := ?_) (w1 := ?_) (a' := ?_) rfl (by rfl) ?_ ?_ ?_
  rotate_left 3
  · go_simp; refine ⟨?_, ?_⟩ <;> with_reducible rfl
  · simp only [Act.put, List.setIfInBounds_toArray, List.set_cons_zero, List.set_cons_succ]; rfl
  obtain ⟨g4, hg4⟩ : ∃ z, w3.heap.size = z := ⟨_, rfl⟩
  rw [hg4] at hst4 B4 ⊢
  refine pl_store (by rfl) rfl (run_op_store rfl ?_ ?_ hst4) ?_
  · rfl
  · rfl
  iterate 1 (first | (refine pl_off (a' := ?_) rfl (by rfl) ?_ ?_; rotate_left 1; (· simp only [Act.put, List.setIfInBounds_toArray, List.set_cons_zero, List.set_cons_succ]; rfl)) | (refine pl_y (v := ?_) (a' := ?_) rfl (by rfl) ?_ ?_ ?_; rotate_left 2; (· go_simp; with_reducible rfl); (· simp only [Act.put, List.setIfInBounds_toArray, List.set_cons_zero, List.set_cons_succ]; rfl)))
  refine wpList_nil ?_
  have e24 : Ext w2 w4 := hE3.trans hE4
  have lq4 := ld2 w4 e24
  clear hst4
  go_upto_region 3 with fail
  refine wp_region_lit ?_
  refine pl_y (v := ?_) (a' := ?_) rfl (by rfl) ?_ ?_ ?_
  rotate_left 2
  · (refine (run_op_load rfl ?_ (lq4)).trans ?_; (· rfl); (· with_reducible rfl))
  · simp only [Act.put, List.setIfInBounds_toArray, List.set_cons_zero, List.set_cons_succ]; rfl
  iterate 1 (first | (refine pl_off (a' := ?_) rfl (by rfl) ?_ ?_; rotate_left 1; (· simp only [Act.put, List.setIfInBounds_toArray, List.set_cons_zero, List.set_cons_succ]; rfl)) | (refine pl_y (v := ?_) (a' := ?_) rfl (by rfl) ?_ ?_ ?_; rotate_left 2; (· go_simp; with_reducible rfl); (· simp only [Act.put, List.setIfInBounds_toArray, List.set_cons_zero, List.set_cons_succ]; rfl)))
  refine pl_call (args := ?_) Tryd.func26 (by kernel_rfl) rfl (by rfl) rfl rfl ?_ ?_
  rotate_left 1
  · go_simp; with_reducible rfl
  (with_reducible refine (hat2 w4 (hE2.trans e24)).mono ?_)
  rintro e w5 ⟨a5, rfl, hG5, hE5⟩
  refine ⟨_, _, rfl, (by simp only [Act.put, List.setIfInBounds_toArray, List.set_cons_zero, List.set_cons_succ]; rfl), ?_⟩
  obtain ⟨A5, q5, rfl, hq5, hS5⟩ := hG5.mono only_cle
  obtain ⟨T5, hT5⟩ : ∃ T, tokA zTok (.slice A5 zTok.gs.length q5) = T := ⟨_, rfl⟩
  have szT5 : T5.size = 35 := by rw [← hT5]; rfl
  have oneT5 : T5.all (·.oneCell') = true := by rw [← hT5]; exact one_tok _ _ rfl
  rw [hT5]
  iterate 3 (first | (refine pl_off (a' := ?_) rfl (by rfl) ?_ ?_; rotate_left 1; (· simp only [Act.put, List.setIfInBounds_toArray, List.set_cons_zero, List.set_cons_succ]; rfl)) | (refine pl_y (v := ?_) (a' := ?_) rfl (by rfl) ?_ ?_ ?_; rotate_left 2; (· go_simp; with_reducible rfl); (· simp only [Act.put, List.setIfInBounds_toArray, List.set_cons_zero, List.set_cons_succ]; rfl)))
  obtain ⟨w6, hst6, B6, hE6⟩ := box_row w5 27 #[.string ⟨#[]⟩, .int .i64 0, .slice none 0 0, .int .u8 0, .int .u8 0, .int .u8 0, .int .u8 0, .int .u8 0, .int .u8 0, .int .u8 0, .int .u8 0, .int .u8 0, .int .u8 0, .int .u8 0, .int .u8 0, .int .u8 0, .int .u8 0, .int .u8 0, .int .u8 0, .int .u8 0, .int .u8 0, .int .u8 0, .int .u8 0, .int .u8 0, .int .u8 0, .int .u8 0, .int .u8 0, .int .u8 0, .int .u8 0, .int .u8 0, .int .u8 0, .int .u8 0, .int .u8 0, .int .u8 0, .int .u8 0] T5 (by rw [szT5]; rfl) (by rw [szT5]; kernel_rfl) oneT5
  refine pl_v (v := ?_) (w1 := ?_) (a' := ?_) rfl (by rfl) ?_ ?_ ?_
  rotate_left 3
  · go_simp; refine ⟨?_, ?_⟩ <;> with_reducible rfl
  · simp only [Act.put, List.setIfInBounds_toArray, List.set_cons_zero, List.set_cons_succ]; rfl
  refine pl_store (by rfl) rfl (run_op_store rfl ?_ ?_ hst6) ?_
  · rfl
  · rfl
  iterate 1 (first | (refine pl_off (a' := ?_) rfl (by rfl) ?_ ?_; rotate_left 1; (· simp only [Act.put, List.setIfInBounds_toArray, List.set_cons_zero, List.set_cons_succ]; rfl)) | (refine pl_y (v := ?_) (a' := ?_) rfl (by rfl) ?_ ?_ ?_; rotate_left 2; (· go_simp; with_reducible rfl); (· simp only [Act.put, List.setIfInBounds_toArray, List.set_cons_zero, List.set_cons_succ]; rfl)))
  refine wpList_nil ?_
  have e26 : Ext w2 w6 := e24.trans (hE5.trans hE6)
  have e46 : Ext w4 w6 := hE5.trans hE6
  have lq6 := ld2 w6 e26
  have B46 := B4.ext e46
  have ld6 := fun (w' : World) (h : Ext w6 w') => load_whole (B46.ext h) 27 _ Tryd.underlying27 rfl (by rw [szT3]; kernel_rfl)
  have c6 := fun (w' : World) (h : Ext w6 w') => (B46.ext h).cell 2 c32
  clear hst6
  go_upto_region 4 with fail
  refine wp_region_lit ?_
  iterate 11 (first | (refine pl_off (a' := ?_) rfl (by rfl) ?_ ?_; rotate_left 1; (· simp only [Act.put, List.setIfInBounds_toArray, List.set_cons_zero, List.set_cons_succ]; rfl)) | (refine pl_y (v := ?_) (a' := ?_) rfl (by rfl) ?_ ?_ ?_; rotate_left 2; (· go_simp; with_reducible rfl); (· simp only [Act.put, List.setIfInBounds_toArray, List.set_cons_zero, List.set_cons_succ]; rfl)))
  refine pl_y (a' := ?_) rfl (by rfl) (run_buildKey rfl rfl) ?_ ?_
  rotate_left 1
  · simp only [Act.put, List.setIfInBounds_toArray, List.set_cons_zero, List.set_cons_succ]; rfl
  rw [HK1.out]
  refine pl_y (v := ?_) (a' := ?_) rfl (by rfl) ?_ ?_ ?_
  rotate_left 2
  · (refine (run_op_load rfl ?_ (lq6)).trans ?_; (· rfl); (· with_reducible rfl))
  · simp only [Act.put, List.setIfInBounds_toArray, List.set_cons_zero, List.set_cons_succ]; rfl
  refine pl_call (args := ?_) Tryd.func12 (by kernel_rfl) rfl (by rfl) rfl rfl ?_ ?_
  rotate_left 1
  · go_simp; with_reducible rfl
  (with_reducible refine (hve0 w6 (hE2.trans e26)).mono ?_)
  rintro e w7 ⟨rfl, hE7⟩
  refine ⟨_, _, rfl, (by simp only [Act.put, List.setIfInBounds_toArray, List.set_cons_zero, List.set_cons_succ]; rfl), ?_⟩
  iterate 3 (first | (refine pl_off (a' := ?_) rfl (by rfl) ?_ ?_; rotate_left 1; (· simp only [Act.put, List.setIfInBounds_toArray, List.set_cons_zero, List.set_cons_succ]; rfl)) | (refine pl_y (v := ?_) (a' := ?_) rfl (by rfl) ?_ ?_ ?_; rotate_left 2; (· go_simp; with_reducible rfl); (· simp only [Act.put, List.setIfInBounds_toArray, List.set_cons_zero, List.set_cons_succ]; rfl)))
  have lq7 := ld6 w7 hE7
  refine pl_y (a' := ?_) rfl (by rfl) (run_buildKey rfl rfl) ?_ ?_
  rotate_left 1
  · simp only [Act.put, List.setIfInBounds_toArray, List.set_cons_zero, List.set_cons_succ]; rfl
  rw [HK1.out]
  refine pl_y (v := ?_) (a' := ?_) rfl (by rfl) ?_ ?_ ?_
  rotate_left 2
  · (refine (run_op_load rfl ?_ (lq7)).trans ?_; (· rfl); (· with_reducible rfl))
  · simp only [Act.put, List.setIfInBounds_toArray, List.set_cons_zero, List.set_cons_succ]; rfl
  refine pl_call (args := ?_) Tryd.func12 (by kernel_rfl) rfl (by rfl) rfl rfl ?_ ?_
  rotate_left 1
  · go_simp; with_reducible rfl
  (with_reducible refine (hve1 w7 (hE4.trans (e46.trans hE7))).mono ?_)
  rintro e w8 ⟨rfl, hE8⟩
  refine ⟨_, _, rfl, (by simp only [Act.put, List.setIfInBounds_toArray, List.set_cons_zero, List.set_cons_succ]; rfl), ?_⟩
  iterate 3 (first | (refine pl_off (a' := ?_) rfl (by rfl) ?_ ?_; rotate_left 1; (· simp only [Act.put, List.setIfInBounds_toArray, List.set_cons_zero, List.set_cons_succ]; rfl)) | (refine pl_y (v := ?_) (a' := ?_) rfl (by rfl) ?_ ?_ ?_; rotate_left 2; (· go_simp; with_reducible rfl); (· simp only [Act.put, List.setIfInBounds_toArray, List.set_cons_zero, List.set_cons_succ]; rfl)))
  have lq8 := ld6 w8 (hE7.trans hE8)
  refine pl_y (v := ?_) (a' := ?_) rfl (by rfl) ?_ ?_ ?_
  rotate_left 2
  · (refine (run_op_load rfl ?_ (lq8)).trans ?_; (· rfl); (· with_reducible rfl))
  · simp only [Act.put, List.setIfInBounds_toArray, List.set_cons_zero, List.set_cons_succ]; rfl
  refine pl_call (args := ?_) Tryd.func14 (by kernel_rfl) rfl (by rfl) rfl rfl ?_ ?_
  rotate_left 1
  · go_simp; with_reducible rfl
  (with_reducible refine (hla1 w8 (hE4.trans (e46.trans (hE7.trans hE8)))).mono ?_)
  rintro e w9 ⟨rfl, hE9⟩
  refine ⟨_, _, rfl, (by simp only [Act.put, List.setIfInBounds_toArray, List.set_cons_zero, List.set_cons_succ]; rfl), ?_⟩
  iterate 3 (first | (refine pl_off (a' := ?_) rfl (by rfl) ?_ ?_; rotate_left 1; (· simp only [Act.put, List.setIfInBounds_toArray, List.set_cons_zero, List.set_cons_succ]; rfl)) | (refine pl_y (v := ?_) (a' := ?_) rfl (by rfl) ?_ ?_ ?_; rotate_left 2; (· go_simp; with_reducible rfl); (· simp only [Act.put, List.setIfInBounds_toArray, List.set_cons_zero, List.set_cons_succ]; rfl)))
  have cc := c6 w9 (hE7.trans (hE8.trans hE9))
  iterate 6 (first | (refine pl_off (a' := ?_) rfl (by rfl) ?_ ?_; rotate_left 1; (· simp only [Act.put, List.setIfInBounds_toArray, List.set_cons_zero, List.set_cons_succ]; rfl)) | (refine pl_y (v := ?_) (a' := ?_) rfl (by rfl) ?_ ?_ ?_; rotate_left 2; (· go_simp; with_reducible rfl); (· simp only [Act.put, List.setIfInBounds_toArray, List.set_cons_zero, List.set_cons_succ]; rfl)))
  refine wpList_nil ?_
  go_wp2_with fail
  go_ret
  exact ⟨rfl, hE1.trans (hE2.trans (e26.trans (hE7.trans (hE8.trans hE9))))⟩
theorem tknown_any (w : World) (hK : KAt w) (hI : IAt w) : Calls Tryd.prog 9 #[] w fun e w' => e = .returned (.bool true) ∧ Ext w w' :=
  known_walk w hK hI kt0 kt1 (Prod.ext rfl kt0_e) (Prod.ext rfl kt1_e) kt2_e kt0_v kt1_v kt1_last kt0_len kt1_len kt0_mac kt1_mac kt0_fit kt1_fit kt0_ten kt1_ten
end Go.Proofs.YtjcpgjnogcmalaaDoor

/-! Small functions that the statements on tokens use. -/
namespace Go.Proofs.YtjcpgjnogcmalaaDoor
set_option linter.unusedVariables false
set_option linter.unusedSimpArgs false
open Go.RowKit
theorem sl_pre {α : Type} {d : Rd α} {w : World} {A : Option Addr} {n m : Nat} {xs ys : List α} (h : d.Sl w A n (xs ++ ys)) (hm : xs.length = m) : d.Sl w A m xs := by
  subst hm
  refine ⟨rfl, fun h0 => ?_⟩
  have hn := h.1
  rw [List.length_append] at hn
  obtain ⟨b, o, e, hc⟩ := h.2 (by omega)
  refine ⟨b, o, e, fun i hi => ?_⟩
  have := hc i (by rw [List.length_append]; omega)
  rwa [List.getElem_append_left hi] at this
theorem sl_take {α : Type} {d : Rd α} {w : World} {A : Option Addr} {n : Nat} {xs : List α} (h : d.Sl w A n xs) (i : Nat) (hi : i ≤ n) : d.Sl w A i (xs.take i) := by
  have h1 := h.1
  refine sl_pre (xs := xs.take i) (ys := xs.drop i) (by rw [List.take_append_drop]; exact h) ?_
  rw [List.length_take]; omega
set_option maxHeartbeats 1000000 in
set_option maxRecDepth 100000 in
theorem pick_any (v n : Int) (hv : -9223372036854775808 ≤ v ∧ v ≤ 9223372036854775807) (hn : n ≤ 9223372036854775807) (w : World) : Calls Tryd.prog 34 #[.int .i64 v, .int .i64 n] w fun e w' => ∃ i : Int, e = .returned (.int .i64 i) ∧ (1 ≤ n → 0 ≤ i ∧ i < n) ∧ (n < 1 → i = 0) ∧ w = w' := by
  go_enter Tryd.func34, Tryd.ntmps34
  by_cases h1 : n < 1
  · go_wp2_with fail
    go_ret
    exact ⟨_, rfl, fun h => absurd h1 (by omega), fun _ => rfl, rfl⟩
  · have h0 : n ≠ 0 := by omega
    have a1 : v.tmod n < n := Int.tmod_lt_of_pos _ (by omega)
    have a2 : -n < v.tmod n := Int.lt_tmod_of_pos _ (by omega)
    have a3 : wrap64 (v.tmod n) = v.tmod n := IntWalk.wrap64_in _ ⟨by omega, by omega⟩
    have a4 : v.tmod n < 0 → wrap64 (v.tmod n + n) = v.tmod n + n := fun h => IntWalk.wrap64_in _ ⟨by omega, by omega⟩
    go_wp2_with fail
    all_goals go_ret
    all_goals (refine ⟨_, rfl, ⟨by omega, by omega⟩, ?_, rfl⟩; first | omega | (intro h; omega) | trivial)
theorem pickN (v : Int) (n : Nat) (hv : intOk v) (hn : n ≤ 4294967296) (h0 : 0 < n) (w : World) : Calls Tryd.prog 34 #[.int .i64 v, .int .i64 n] w fun e w' => ∃ i : Nat, e = .returned (.int .i64 i) ∧ i < n ∧ w = w' := by
  refine (pick_any v n hv (by omega) w).mono ?_
  rintro e w' ⟨i, rfl, h1, -, rfl⟩
  obtain ⟨h2, h3⟩ := h1 (by omega)
  exact ⟨i.toNat, by rw [Int.toNat_of_nonneg h2], by omega, rfl⟩
theorem run_slice_to1 {P : Program} {t e : TypeId} {sz bytes : Nat} {w : World} (E : Elt P t e sz bytes) (A : Option Addr) (n c i : Nat) (h : i ≤ n) (hc : n ≤ c) : (Instr.sliceAt t (.slice A n c) none (some (.int .i64 (i : Int))) none).run P w = .ok (.slice A i c) w := by
  obtain ⟨inf, z, hi', hz, hsz, hby, hzc⟩ := E.hi
  have h0 := E.ht
  have he : P.elem t = e := by simp [Program.elem, h0]
  have h2 : P.underlying t = some (.slice (P.elem t)) := by rw [he]; exact h0
  rw [run_sliceAt_slice _ t _ _ _ _ h2, run_slice_h _ t A n c h2 .i64 i (by omega) (by omega), he]
  simp [sizeOf, typeInfo, hi', hsz, sliced, Result.andThen, Addr.add]
set_option maxHeartbeats 1000000 in
set_option maxRecDepth 100000 in
theorem left_any (w : World) (lo g : Nat) (bs : List UInt8) (why : Int) (hR : RdrAt w lo g bs why) :
    Calls Tryd.prog 35 #[.pointer (some ⟨g, 0, none⟩)] w fun e w' => e = .returned (.int .i64 bs.length) ∧ w = w' := by
  obtain ⟨A, c, hB, h1, h2, -⟩ := hR
  have x0 := hB.cell 0 (v := .slice A bs.length c) rfl
  clear hB
  go_enter Tryd.func35, Tryd.ntmps35
  go_wp2_with fail
  go_ret
  exact ⟨rfl, rfl⟩
/-- More than the statements go through. -/
def longTo (l : List Grant) (k : Nat) : Bool := (l.take k).any fun g => decide (1024 < g.p.size)
def longGs (l : List Grant) : Bool := decide (20 < l.length) || longTo l l.length
theorem longTo_succ (l : List Grant) (k : Nat) (x : Grant) (h : l[k]? = some x) : longTo l (k + 1) = (longTo l k || decide (1024 < x.p.size)) := by
  obtain ⟨hk, rfl⟩ := List.getElem?_eq_some_iff.1 h
  unfold longTo
  rw [List.take_succ_eq_append_getElem hk, List.any_append]
  simp
theorem longTo_yes (l : List Grant) (k n : Nat) (h : longTo l k = true) (hk : k ≤ n) : longTo l n = true := by
  unfold longTo at h ⊢
  rw [List.any_eq_true] at h ⊢
  obtain ⟨x, hx, hd⟩ := h
  exact ⟨x, List.mem_of_mem_take (i := k) (by rw [List.take_take, Nat.min_eq_left hk]; exact hx), hd⟩
set_option maxHeartbeats 9000000 in
set_option maxRecDepth 100000 in
theorem tlong_any (w : World) (A : Option Addr) (c : Nat) (l : List Grant) (hS : rdGr.Sl w A l.length l) :
    Calls Tryd.prog 8 #[.slice A l.length c] w fun e w' => e = .returned (.bool (longGs l)) ∧ Ext w w' := by
  unfold longGs
  obtain ⟨n, hln⟩ : ∃ n, l.length = n := ⟨_, rfl⟩
  rw [hln] at hS ⊢
  by_cases h20 : 20 < n
  · have d : decide (20 < n) = true := decide_eq_true h20
    have d' : decide ((20 : Int) < (n : Int)) = true := decide_eq_true (by omega)
    rw [d]
    go_enter Tryd.func8, Tryd.ntmps8
    go_wp2_with fail
    go_ret
    exact ⟨rfl, Ext.refl _⟩
  · have d : decide (20 < n) = false := decide_eq_false h20
    have d' : decide ((20 : Int) < (n : Int)) = false := decide_eq_false (by omega)
    rw [d, Bool.false_or]
    go_enter Tryd.func8, Tryd.ntmps8
    go_wp2_with fail
    go_loopw [3] (fun i wr => ∃ k : Nat, k ≤ n ∧ i = .int .i64 k ∧ longTo l k = false ∧ Ext w wr) (fun i _ => n - (intOf i).toNat)
    case atStart => exact ⟨0, by omega, rfl, rfl, Ext.refl _⟩
    case round =>
      obtain ⟨k, hkn, rfl, hlo, hwr⟩ := hrel
      by_cases hlt : k < n
      · obtain ⟨b, o, cs, rfl, hk', hcell⟩ := (hS.ext hwr).get k hlt
        obtain ⟨x, hx⟩ : ∃ x, l[k]? = some x := ⟨_, List.getElem?_eq_getElem (by omega)⟩
        have hxe : l[k]'(by omega) = x := Option.some.inj ((List.getElem?_eq_getElem _).symm.trans hx)
        rw [hxe] at hk'
        obtain rfl := gr_cells hk'
        have x1 : wr.cell? ⟨b, o + k * 4 + 1, none⟩ = some (.string x.p) := hcell 1 _ rfl
        have hsu := longTo_succ l k x hx
        rw [hlo, Bool.false_or] at hsu
        clear hcell hk' hxe hx
        by_cases hb : 1024 < x.p.size
        · have db : decide (1024 < x.p.size) = true := decide_eq_true hb
          have db' : decide ((1024 : Int) < (x.p.size : Int)) = true := decide_eq_true (by omega)
          rw [db] at hsu
          go_wp2_with fail
          go_ret
          exact ⟨by rw [longTo_yes l (k + 1) n hsu (by omega)]; rfl, hwr⟩
        · have db : decide (1024 < x.p.size) = false := decide_eq_false hb
          have db' : decide ((1024 : Int) < (x.p.size : Int)) = false := decide_eq_false (by omega)
          rw [db] at hsu
          go_wp2_with fail
          go_roundw
          case rel => exact ⟨k + 1, by omega, by go_num, hsu, hwr⟩
          case measure => simp [intOf]; omega
      · obtain rfl : k = n := by omega
        go_wp2_with fail
        go_ret
        exact ⟨by rw [hlo]; rfl, hwr⟩
/-- The state of a reader of a token that was cut short. -/
theorem tok_cut (t : Tok) (k : Nat) (h : tokOk t) (hk : k < (tokB t).length) : tokS ((tokB t).take k, 0) = (zTok, ([], 4)) := by
  have h2 := tok_codec.cut t k h hk
  unfold tokS badS at h2 ⊢
  by_cases hz : (tokRawS ((tokB t).take k, 0)).2.2 = 0
  · rw [if_pos hz] at h2
    rw [h2] at hz
    cases hz
  · rw [if_neg hz] at h2 ⊢
    exact Prod.ext rfl h2
end Go.Proofs.YtjcpgjnogcmalaaDoor
