/- The law CommandCut, walked. (and what follows) -/
import Derived.Test.YtgfhbachgniipaaGreatDoorMz
import Derived.Test.YtgfhbachgniipaaGreatDoorM12
set_option linter.unusedVariables false
set_option linter.unusedSimpArgs false
namespace Go.Proofs.YtgfhbachgniipaaGreatDoor
open Go.RowKit
set_option maxHeartbeats 1000000 in
set_option maxRecDepth 100000 in
theorem pick_any (v n : Int) (hv : -9223372036854775808 ≤ v ∧ v ≤ 9223372036854775807) (hn : n ≤ 9223372036854775807) (w : World) : Calls Tryz.prog 34 #[.int .i64 v, .int .i64 n] w fun e w' => ∃ i : Int, e = .returned (.int .i64 i) ∧ (1 ≤ n → 0 ≤ i ∧ i < n) ∧ (n < 1 → i = 0) ∧ w = w' := by
  go_enter Tryz.func34, Tryz.ntmps34
  by_cases h1 : n < 1
  · go_wp2_with fail
    go_ret
    exact ⟨_, rfl, fun h => absurd h1 (by omega), fun _ => rfl, rfl⟩
  · have h0 : n ≠ 0 := by omega
    have a1 : v.tmod n < n := Int.tmod_lt_of_pos _ (by omega)
    have a2 : -n < v.tmod n := Int.lt_tmod_of_pos _ (by omega)
    have a3 : wrap64 (v.tmod n) = v.tmod n := IntWalk.wrap64_in _ ⟨by omega, by omega⟩
    have a4 : v.tmod n < 0 → wrap64 (v.tmod n + n) = v.tmod n + n := fun h => IntWalk.wrap64_in _ ⟨by omega, by omega⟩
    go_wp2_with fail
    all_goals go_ret
    all_goals (refine ⟨_, rfl, ⟨by omega, by omega⟩, ?_, rfl⟩; first | omega | (intro h; omega) | trivial)
theorem sl_take {α : Type} {d : Rd α} {w : World} {A : Option Addr} {n : Nat} {xs : List α} (h : d.Sl w A n xs) (i : Nat) (hi : i ≤ n) : d.Sl w A i (xs.take i) := by
  have h1 := h.1
  refine sl_pre (xs := xs.take i) (ys := xs.drop i) (by rw [List.take_append_drop]; exact h) ?_
  rw [List.length_take]; omega
theorem pickN (v : Int) (n : Nat) (hv : intOk v) (hn : n ≤ 4294967296) (h0 : 0 < n) (w : World) : Calls Tryz.prog 34 #[.int .i64 v, .int .i64 n] w fun e w' => ∃ i : Nat, e = .returned (.int .i64 i) ∧ i < n ∧ w = w' := by
  refine (pick_any v n hv (by omega) w).mono ?_
  rintro e w' ⟨i, rfl, h1, -, rfl⟩
  obtain ⟨h2, h3⟩ := h1 (by omega)
  exact ⟨i.toNat, by rw [Int.toNat_of_nonneg h2], by omega, rfl⟩
theorem cmdB_pos (c : Cmd) : 0 < (cmdB c).length := by
  unfold cmdB
  simp only [List.length_append, num8_len]
  omega
theorem ansB_pos (c : Ans) : 0 < (ansB c).length := by
  unfold ansB
  simp only [List.length_append, num8_len]
  omega
def wantG (m : List UInt8) : Int := if m.length = 0 then 0 else 5
theorem c_want {c : Cmd} (h : cmdG c = 0) (hi : CmdInts c) (m : List UInt8) : ∃ r, getC (cmdB c ++ m) = (r, wantG m) := by
  unfold wantG
  by_cases hm : m.length = 0
  · rw [if_pos hm, List.eq_nil_of_length_eq_zero hm, List.append_nil]
    exact ⟨_, c_back c h hi⟩
  · rw [if_neg hm]
    exact ⟨_, c_more c h hi m (fun e => hm (by rw [e]; rfl))⟩
theorem a_want {c : Ans} (h : ansG c = 0) (hi : AnsInts c) (m : List UInt8) : ∃ r, getA (ansB c ++ m) = (r, wantG m) := by
  unfold wantG
  by_cases hm : m.length = 0
  · rw [if_pos hm, List.eq_nil_of_length_eq_zero hm, List.append_nil]
    exact ⟨_, a_back c h hi⟩
  · rw [if_neg hm]
    exact ⟨_, a_more c h hi m (fun e => hm (by rw [e]; rfl))⟩
set_option maxHeartbeats 9000000 in
set_option maxRecDepth 100000 in
theorem cut_walk (w : World) (c : Cmd) (C : Array Value) (a : Ans) (D : Array Value) (x : Int) (hx : intOk x) (B : Option Addr) (d : Nat) (more : List UInt8) (hO : OfAt w) (h : CmdAt w c C) (hi : CmdCome c) (ha : AnsAt w a D) (hia : AnsCome a) (hSB : Rd.u8.Sl w B more.length more) (hd : more.length ≤ d) (hn : more.length ≤ 140737488351232) :
    Calls Tryz.prog 7 #[.agg C, .agg D, .int .i64 x, .slice B more.length d] w fun e w' => e = .returned (.bool true) ∧ Ext w w' := by
  obtain ⟨hC1, hC2⟩ := h.row
  obtain ⟨hD1, hD2⟩ := ha.row
  have hwt : wantG more = if more.length = 0 then 0 else 5 := rfl
  obtain ⟨m, hbm⟩ : ∃ m, more.length = m := ⟨_, rfl⟩
  rw [hbm] at hwt
  obtain ⟨W, hW, hE, -, -⟩ := box2 w C D 31 46
  have B1 : Blk W w.heap.size 31 C := by rw [hW]; exact (Blk.new _ _ _).alloc _
  have B2 : Blk W (w.heap.size + 1) 46 D := by rw [hW]; have := Blk.new (w.alloc (.cells C 31)) 46 D; simpa using this
  have l1 := fun (w' : World) (e : Ext W w') => load_whole (B1.ext e) 31 _ Tryz.underlying31 rfl (by rw [hC1]; kernel_rfl)
  have l2 := fun (w' : World) (e : Ext W w') => load_whole (B2.ext e) 46 _ Tryz.underlying46 rfl (by rw [hD1]; kernel_rfl)
  have hCW := fun (w' : World) (e : Ext W w') => h.ext (hE.trans e)
  have hDW := fun (w' : World) (e : Ext W w') => ha.ext (hE.trans e)
  have hOW := fun (w' : World) (e : Ext W w') => hO.ext (hE.trans e)
  have hSB := fun (w' : World) (e : Ext W w') => hSB.ext (hE.trans e)
  have hwo := fun (w' : World) (e : Ext W w') => works_any w' (hOW w' e)
  have hbg := bigq_any W c C (hCW W (Ext.refl _)) hi
  have hgr := fun (w' : World) (e : Ext W w') => greatq_any w' a D (hDW w' e) hia
  rw [hbm] at hSB hd hn ⊢
  have HM := Lib.hid hbm
  have h1m := encB_one more
  have hY := Ext.refl W
  clear h ha hO B1 B2 hbm
  go_enter Tryz.func7, Tryz.ntmps7
  go_upto_region 1 with fail
  rw [← hW]
  clear hW
  refine wp_region_lit ?_
  refine pl_y (v := ?_) (a' := ?_) rfl (by rfl) ?_ ?_ ?_
  rotate_left 2
  · (refine (run_op_load rfl ?_ ((l1 _ (Ext.refl _)))).trans ?_; (· rfl); (· with_reducible rfl))
  · simp only [Act.put, zzA, zz0, zzS]; rfl
  refine pl_call (args := ?_) Tryz.func9 (by kernel_rfl) rfl (by rfl) rfl rfl ?_ ?_
  rotate_left 1
  · go_simp; with_reducible rfl
  (with_reducible refine (hbg).mono ?_)
  rintro e w1 ⟨v1, rfl, hv1, hE1⟩
  refine ⟨_, _, rfl, (by simp only [Act.put, zzA, zz0, zzS]; rfl), ?_⟩
  have hF1 := hE1
  cases v1
  rotate_left 1
  · iterate 9 (first | (refine pl_off (a' := ?_) rfl (by rfl) ?_ ?_; rotate_left 1; (· simp only [Act.put, zzA, zz0, zzS]; rfl)) | (refine pl_y (v := ?_) (a' := ?_) rfl (by rfl) ?_ ?_ ?_; rotate_left 2; (· go_simp; with_reducible rfl); (· simp only [Act.put, zzA, zz0, zzS]; rfl)))
    refine wpList_nil ?_
    go_wp2_with (go_at_call 10; (with_reducible refine (hwo _ hF1).mono ?_); rintro e w9 ⟨rfl, hE9⟩)
    go_ret
    exact ⟨rfl, hE.trans (hF1.trans hE9)⟩
  have hf := hv1 rfl
  iterate 1 (first | (refine pl_off (a' := ?_) rfl (by rfl) ?_ ?_; rotate_left 1; (· simp only [Act.put, zzA, zz0, zzS]; rfl)) | (refine pl_y (v := ?_) (a' := ?_) rfl (by rfl) ?_ ?_ ?_; rotate_left 2; (· go_simp; with_reducible rfl); (· simp only [Act.put, zzA, zz0, zzS]; rfl)))
  refine pl_y (v := ?_) (a' := ?_) rfl (by rfl) ?_ ?_ ?_
  rotate_left 2
  · (refine (run_op_load rfl ?_ ((l2 _ hE1))).trans ?_; (· rfl); (· with_reducible rfl))
  · simp only [Act.put, zzA, zz0, zzS]; rfl
  refine pl_call (args := ?_) Tryz.func19 (by kernel_rfl) rfl (by rfl) rfl rfl ?_ ?_
  rotate_left 1
  · go_simp; with_reducible rfl
  (with_reducible refine (hgr _ hF1).mono ?_)
  rintro e w2 ⟨v2, rfl, hv2, hE2⟩
  refine ⟨_, _, rfl, (by simp only [Act.put, zzA, zz0, zzS]; rfl), ?_⟩
  have hF2 := hF1.trans hE2
  cases v2
  rotate_left 1
  · iterate 6 (first | (refine pl_off (a' := ?_) rfl (by rfl) ?_ ?_; rotate_left 1; (· simp only [Act.put, zzA, zz0, zzS]; rfl)) | (refine pl_y (v := ?_) (a' := ?_) rfl (by rfl) ?_ ?_ ?_; rotate_left 2; (· go_simp; with_reducible rfl); (· simp only [Act.put, zzA, zz0, zzS]; rfl)))
    refine wpList_nil ?_
    go_wp2_with (go_at_call 10; (with_reducible refine (hwo _ hF2).mono ?_); rintro e w9 ⟨rfl, hE9⟩)
    go_ret
    exact ⟨rfl, hE.trans (hF2.trans hE9)⟩
  have hfa := hv2 rfl
  by_cases hbig : 512 < m
  · iterate 6 (first | (refine pl_off (a' := ?_) rfl (by rfl) ?_ ?_; rotate_left 1; (· simp only [Act.put, zzA, zz0, zzS]; rfl)) | (refine pl_y (v := ?_) (a' := ?_) rfl (by rfl) ?_ ?_ ?_; rotate_left 2; (· go_simp; with_reducible rfl); (· simp only [Act.put, zzA, zz0, zzS]; rfl)))
    refine wpList_nil ?_
    go_wp2_with (go_at_call 10; (with_reducible refine (hwo _ hF2).mono ?_); rintro e w9 ⟨rfl, hE9⟩)
    go_ret
    exact ⟨rfl, hE.trans (hF2.trans hE9)⟩
  have hbigI : decide ((512 : Int) < (m : Int)) = false := by simp; omega
  iterate 6 (first | (refine pl_off (a' := ?_) rfl (by rfl) ?_ ?_; rotate_left 1; (· simp only [Act.put, zzA, zz0, zzS]; rfl)) | (refine pl_y (v := ?_) (a' := ?_) rfl (by rfl) ?_ ?_ ?_; rotate_left 2; (· go_simp; with_reducible rfl); (· simp only [Act.put, zzA, zz0, zzS]; rfl)))
  refine wpList_nil ?_
  clear hv1 hv2 hbg hgr
  have hpu := fun (w' : World) (e : Ext W w') => cputq_any w' c C (hOW w' e) (hCW w' e) hf
  have hpa := fun (w' : World) (e : Ext W w') => aputq_any w' a D (hDW w' e) hfa
  unfold PutQ at hpu hpa
  obtain ⟨cv, hcv⟩ : ∃ z, cmdG c = z := ⟨_, rfl⟩
  obtain ⟨av, hav⟩ : ∃ z, ansG a = z := ⟨_, rfl⟩
  rw [hcv] at hpu
  rw [hav] at hpa
  have HCV := Lib.hid hcv
  have HAV := Lib.hid hav
  clear hcv hav hE1 hE2 hF1
  by_cases hm0 : m = 0
  · have HWT : Hid (wantG more = 0) := Lib.hid (by rw [hwt, if_pos hm0])
    have hm1 : (((m : Int)) == 0) = true := by simp; omega
    have hm2 : (m == 0) = true := by simp; omega
    clear hwt hm0
    go_upto_region 6 with fail
    clear hm1 hm2
    by_cases h0 : cv = 0
    · have hcv := HCV.out.trans h0
      subst h0
      obtain ⟨rc, hgc⟩ := c_want hcv hi.ints more
      have hLn : (cmdB c).length ≤ 32768 := cmd_len (cmd_fit hcv hi.ints)
      have hPB : putB c = cmdB c := if_pos hcv
      have hcgc := fun (w' : World) (e : Ext W w') (i : Nat) (hi' : i < (cmdB c).length) A1 c1 h2 h3 => cgetq_any w' A1 i c1 ((cmdB c).take i) (hOW w' e) h2 h3 (by omega) zCmd 4 (c_cut c hcv hi.ints i hi')
      go_upto_region 8 with (first | (refine wpList_load_by rfl rfl ?_ (l1 _ hF2) ?_; (· rfl)) | (go_at_call 12; (with_reducible refine (hpu _ hF2).mono ?_); rintro e w3 ⟨A3, n3, c3, rfl, hn3, hc3, -, hS3, hE3⟩))
      rw [hPB] at hn3 hS3
      rw [hn3] at hcgc hLn
      have hS3 := hS3.mono only_cle
      have hp3 : 0 < n3 := by have := cmdB_pos c; omega
      have hpk := pickN x n3 hx (by omega) hp3
      have hcp := fun (w' : World) A1 c1 (h1 : Rd.u8.Sl w' A1 n3 (cmdB c)) (h2 : n3 ≤ c1) => ((by
        have h := copyBytes_any w' A1 c1 (cmdB c) (by rw [hn3]; exact h1) (by rw [hn3]; exact h2) (by omega)
        rw [hn3] at h
        exact h) : Calls Tryz.prog 35 #[.slice A1 n3 c1] w' _)
      have hcgm := fun (w' : World) (e : Ext W w') A1 c1 h2 h3 => cgetq_any w' A1 (n3 + m) c1 (cmdB c ++ more) (hOW w' e) h2 h3 (by omega) rc (wantG more) hgc
      have HN := Lib.hid hn3
      rw [HWT.out] at hcgm
      have F3 := hF2.trans hE3
      have hdn : decide ((32768 : Int) < (n3 : Int)) = false := by simp; omega
      clear hn3 hPB hcv hgc
      go_upto_region 9 with (first | (go_at_call 34; (with_reducible refine (hpk _).mono ?_); rintro e wp ⟨i, rfl, hi, rfl⟩; have hin : i ≤ n3 := Nat.le_of_lt hi; have hic : i ≤ c3 := Nat.le_trans hin hc3) | (refine wpList_slice_to rfl elt_bytes (.tmp 44) (.tmp 48) rfl A3 n3 c3 i rfl rfl hin hc3 ?_) | (go_at_call 27; (with_reducible refine (hcgc _ F3 i hi _ _ (sl_take hS3 i hin) hic).mono ?_); rintro e w5 ⟨C5, rfl, o5, hE5⟩; obtain ⟨z1, z2⟩ := (CmdOwn.row ‹CmdOwn _ _ _ _ _›); obtain ⟨V5, hr, D5, hEV5⟩ := box_row w5 31 #[.int .i64 0, .string ⟨#[]⟩, .int .i64 0, .slice none 0 0, .int .u8 0, .int .u8 0, .int .u8 0, .int .u8 0, .int .u8 0, .int .u8 0, .int .u8 0, .int .u8 0, .int .u8 0, .int .u8 0, .int .u8 0, .int .u8 0, .int .u8 0, .int .u8 0, .int .u8 0, .int .u8 0, .int .u8 0, .int .u8 0, .int .u8 0, .int .u8 0, .int .u8 0, .int .u8 0, .int .u8 0, .int .u8 0, .int .u8 0, .int .u8 0, .int .u8 0, .int .u8 0, .int .u8 0, .int .u8 0, .int .u8 0, .int .u8 0, .string ⟨#[]⟩, .string ⟨#[]⟩, .int .i64 0, .slice none 0 0, .int .i64 0, .int .i64 0, .int .i64 0, .string ⟨#[]⟩, .bool false, .int .i64 0, .int .i64 0] C5 z1.symm (by rw [z1]; kernel_rfl) z2) | (refine wpList_store_by rfl rfl ?_ ?_ hr ?_; (· rfl); (· rfl)))
      have X5 := hE5.trans hEV5
      have F5 := Ext.trans F3 X5
      have S5 := Rd.Sl.ext hS3 X5
      have hcp5 := hcp V5 _ _ S5 hc3
      clear hr z1 z2 o5 D5 hE5 hEV5
      go_upto_region 10 with (first | (go_at_call 35; (with_reducible refine hcp5.mono ?_); rintro e w6 ⟨v6, rfl, hown6, hE6⟩; have hcm6 : Cells w6 B m 1 (more.flatMap encB) := b_cells (hSB _ (F5.trans hE6))) | (at_builtin; refine wpList_append_cells rfl elt_bytes (.tmp 55) (.tmp 56) rfl hown6 rfl rfl hcm6 h1m (by unfold maxLen; omega) (by omega) hE6.le ?_; intro v7 w7 hown7 hg7; have hE7 := grown_ext hE6 hown6 hg7; rw [← List.flatMap_append] at hown7; obtain ⟨A7, c7, rfl, hc7, -, hS7⟩ := own_bytes (lo := 0) (hi := w7.heap.size) (l := cmdB c ++ more) (by rw [List.length_append, HN.out, HM.out]; exact hown7) (Nat.zero_le _) (Nat.le_refl _); rw [List.length_append, HN.out, HM.out] at hc7 hS7; simp only [List.length_append, HN.out, HM.out]; have hS7 := hS7.mono only_cle; have F7 := F5.trans hE7) | (go_at_call 27; (with_reducible refine (hcgm _ F7 _ _ hS7 hc7).mono ?_); rintro e w8 ⟨C8, rfl, o8, hE8⟩; obtain ⟨z1, z2⟩ := (CmdOwn.row ‹CmdOwn _ _ _ _ _›); obtain ⟨V8, hr, D8, hEV8⟩ := box_row w8 31 #[.int .i64 0, .string ⟨#[]⟩, .int .i64 0, .slice none 0 0, .int .u8 0, .int .u8 0, .int .u8 0, .int .u8 0, .int .u8 0, .int .u8 0, .int .u8 0, .int .u8 0, .int .u8 0, .int .u8 0, .int .u8 0, .int .u8 0, .int .u8 0, .int .u8 0, .int .u8 0, .int .u8 0, .int .u8 0, .int .u8 0, .int .u8 0, .int .u8 0, .int .u8 0, .int .u8 0, .int .u8 0, .int .u8 0, .int .u8 0, .int .u8 0, .int .u8 0, .int .u8 0, .int .u8 0, .int .u8 0, .int .u8 0, .int .u8 0, .string ⟨#[]⟩, .string ⟨#[]⟩, .int .i64 0, .slice none 0 0, .int .i64 0, .int .i64 0, .int .i64 0, .string ⟨#[]⟩, .bool false, .int .i64 0, .int .i64 0] C8 z1.symm (by rw [z1]; kernel_rfl) z2) | (refine wpList_store_by rfl rfl ?_ ?_ hr ?_; (· rfl); (· rfl)))
      have X8 := X5.trans (hE7.trans (hE8.trans hEV8))
      have F8 := Ext.trans F3 X8
      clear hr z1 z2 o8 D8 hE8 hEV8 hcm6 hown6 hg7 hown7 hS7 S5 hcp5
      go_upto_region 12 with fail
      clear hpk hcp hcgc hcgm hdn HN hS3 hp3 hLn X8 X5 F5 hc3
      by_cases h1 : av = 0
      · have hav := HAV.out.trans h1
        subst h1
        obtain ⟨ra, hga⟩ := a_want hav hia.ints more
        have hLn : (ansB a).length ≤ 32768 := ans_len (ans_fit hav hia.ints)
        have hPB : putAB a = ansB a := if_pos hav
        have hagc := fun (w' : World) (e : Ext W w') (i : Nat) (hi : i < (ansB a).length) A1 c1 h2 h3 => agetq_any w' A1 i c1 ((ansB a).take i) h2 h3 (by omega) zAns 4 (a_cut a hav hia.ints i hi)
        go_upto_region 14 with (first | (refine wpList_load_by rfl rfl ?_ (l2 _ F8) ?_; (· rfl)) | (go_at_call 21; (with_reducible refine (hpa _ F8).mono ?_); rintro e w14 ⟨A4, n4, c4, rfl, hn4, hc4, -, hS4, hE4⟩))
        rw [hPB] at hn4 hS4
        rw [hn4] at hagc hLn
        have hS4 := hS4.mono only_cle
        have hp4 : 0 < n4 := by have := ansB_pos a; omega
        have hpk := pickN x n4 hx (by omega) hp4
        have hcp := fun (w' : World) A1 c1 (h1 : Rd.u8.Sl w' A1 n4 (ansB a)) (h2 : n4 ≤ c1) => ((by
          have h := copyBytes_any w' A1 c1 (ansB a) (by rw [hn4]; exact h1) (by rw [hn4]; exact h2) (by omega)
          rw [hn4] at h
          exact h) : Calls Tryz.prog 35 #[.slice A1 n4 c1] w' _)
        have hagm := fun (w' : World) (e : Ext W w') A1 c1 h2 h3 => agetq_any w' A1 (n4 + m) c1 (ansB a ++ more) h2 h3 (by omega) ra (wantG more) hga
        have HN := Lib.hid hn4
        rw [HWT.out] at hagm
        have F14 := Ext.trans F8 hE4
        have hdn : decide ((32768 : Int) < (n4 : Int)) = false := by simp; omega
        clear hn4 hPB hav hga
        go_upto_region 15 with (first | (go_at_call 34; (with_reducible refine (hpk _).mono ?_); rintro e wp ⟨i, rfl, hi, rfl⟩; have hin : i ≤ n4 := Nat.le_of_lt hi; have hic : i ≤ c4 := Nat.le_trans hin hc4) | (refine wpList_slice_to rfl elt_bytes (.tmp 81) (.tmp 85) rfl A4 n4 c4 i rfl rfl hin hc4 ?_) | (go_at_call 29; (with_reducible refine (hagc _ F14 i hi _ _ (sl_take hS4 i hin) hic).mono ?_); rintro e w5 ⟨C5, rfl, o5, hE5⟩; obtain ⟨z1, z2⟩ := (AnsAt.row (AnsOwn.only ‹AnsOwn _ _ _ _ _›)); obtain ⟨V5, hr, D5, hEV5⟩ := box_row w5 46 #[.int .i64 0, .int .i64 0, .slice none 0 0, .string ⟨#[]⟩, .int .i64 0, .slice none 0 0, .int .u8 0, .int .u8 0, .int .u8 0, .int .u8 0, .int .u8 0, .int .u8 0, .int .u8 0, .int .u8 0, .int .u8 0, .int .u8 0, .int .u8 0, .int .u8 0, .int .u8 0, .int .u8 0, .int .u8 0, .int .u8 0, .int .u8 0, .int .u8 0, .int .u8 0, .int .u8 0, .int .u8 0, .int .u8 0, .int .u8 0, .int .u8 0, .int .u8 0, .int .u8 0, .int .u8 0, .int .u8 0, .int .u8 0, .int .u8 0, .int .u8 0, .int .u8 0, .slice none 0 0] C5 z1.symm (by rw [z1]; kernel_rfl) z2) | (refine wpList_store_by rfl rfl ?_ ?_ hr ?_; (· rfl); (· rfl)))
        have X5 := hE5.trans hEV5
        have F5 := Ext.trans F14 X5
        have S5 := Rd.Sl.ext hS4 X5
        have hcp5 := hcp V5 _ _ S5 hc4
        clear hr z1 z2 o5 D5 hE5 hEV5
        go_upto_region 16 with (first | (go_at_call 35; (with_reducible refine hcp5.mono ?_); rintro e w6 ⟨v6, rfl, hown6, hE6⟩; have hcm6 : Cells w6 B m 1 (more.flatMap encB) := b_cells (hSB _ (F5.trans hE6))) | (at_builtin; refine wpList_append_cells rfl elt_bytes (.tmp 92) (.tmp 93) rfl hown6 rfl rfl hcm6 h1m (by unfold maxLen; omega) (by omega) hE6.le ?_; intro v7 w7 hown7 hg7; have hE7 := grown_ext hE6 hown6 hg7; rw [← List.flatMap_append] at hown7; obtain ⟨A7, c7, rfl, hc7, -, hS7⟩ := own_bytes (lo := 0) (hi := w7.heap.size) (l := ansB a ++ more) (by rw [List.length_append, HN.out, HM.out]; exact hown7) (Nat.zero_le _) (Nat.le_refl _); rw [List.length_append, HN.out, HM.out] at hc7 hS7; simp only [List.length_append, HN.out, HM.out]; have hS7 := hS7.mono only_cle; have F7 := F5.trans hE7) | (go_at_call 29; (with_reducible refine (hagm _ F7 _ _ hS7 hc7).mono ?_); rintro e w8 ⟨C8, rfl, o8, hE8⟩; obtain ⟨z1, z2⟩ := (AnsAt.row (AnsOwn.only ‹AnsOwn _ _ _ _ _›)); obtain ⟨V8, hr, D8, hEV8⟩ := box_row w8 46 #[.int .i64 0, .int .i64 0, .slice none 0 0, .string ⟨#[]⟩, .int .i64 0, .slice none 0 0, .int .u8 0, .int .u8 0, .int .u8 0, .int .u8 0, .int .u8 0, .int .u8 0, .int .u8 0, .int .u8 0, .int .u8 0, .int .u8 0, .int .u8 0, .int .u8 0, .int .u8 0, .int .u8 0, .int .u8 0, .int .u8 0, .int .u8 0, .int .u8 0, .int .u8 0, .int .u8 0, .int .u8 0, .int .u8 0, .int .u8 0, .int .u8 0, .int .u8 0, .int .u8 0, .int .u8 0, .int .u8 0, .int .u8 0, .int .u8 0, .int .u8 0, .int .u8 0, .slice none 0 0] C8 z1.symm (by rw [z1]; kernel_rfl) z2) | (refine wpList_store_by rfl rfl ?_ ?_ hr ?_; (· rfl); (· rfl)))
        have X8 := X5.trans (hE7.trans (hE8.trans hEV8))
        have F8 := Ext.trans F14 X8
        clear hr z1 z2 o8 D8 hE8 hEV8 hcm6 hown6 hg7 hown7 hS7 S5 hcp5
        go_upto_region 18 with fail
        go_wp2_with (go_at_call 10; (with_reducible refine (hwo _ F8).mono ?_); rintro e w20 ⟨rfl, hE20⟩)
        go_ret
        exact ⟨rfl, hE.trans (Ext.trans F8 hE20)⟩
      · have h1a : (av == 0) = false := by simpa using h1
        go_upto_region 18 with (first | (refine wpList_load_by rfl rfl ?_ (l2 _ F8) ?_; (· rfl)) | (go_at_call 21; (with_reducible refine (hpa _ F8).mono ?_); rintro e w14 ⟨A4, n4, c4, rfl, hn4, hc4, -, hS4, hE4⟩))
        have F14 := Ext.trans F8 hE4
        clear hn4 hc4 hS4 hE4
        go_wp2_with (go_at_call 10; (with_reducible refine (hwo _ F14).mono ?_); rintro e w20 ⟨rfl, hE20⟩)
        go_ret
        exact ⟨rfl, hE.trans (Ext.trans F14 hE20)⟩
    · have h0a : (cv == 0) = false := by simpa using h0
      go_upto_region 12 with (first | (refine wpList_load_by rfl rfl ?_ (l1 _ hF2) ?_; (· rfl)) | (go_at_call 12; (with_reducible refine (hpu _ hF2).mono ?_); rintro e w3 ⟨A3, n3, c3, rfl, hn3, hc3, -, hS3, hE3⟩))
      have F3 := hF2.trans hE3
      clear hn3 hc3 hS3 hE3
      by_cases h1 : av = 0
      · have hav := HAV.out.trans h1
        subst h1
        obtain ⟨ra, hga⟩ := a_want hav hia.ints more
        have hLn : (ansB a).length ≤ 32768 := ans_len (ans_fit hav hia.ints)
        have hPB : putAB a = ansB a := if_pos hav
        have hagc := fun (w' : World) (e : Ext W w') (i : Nat) (hi : i < (ansB a).length) A1 c1 h2 h3 => agetq_any w' A1 i c1 ((ansB a).take i) h2 h3 (by omega) zAns 4 (a_cut a hav hia.ints i hi)
        go_upto_region 14 with (first | (refine wpList_load_by rfl rfl ?_ (l2 _ F3) ?_; (· rfl)) | (go_at_call 21; (with_reducible refine (hpa _ F3).mono ?_); rintro e w14 ⟨A4, n4, c4, rfl, hn4, hc4, -, hS4, hE4⟩))
        rw [hPB] at hn4 hS4
        rw [hn4] at hagc hLn
        have hS4 := hS4.mono only_cle
        have hp4 : 0 < n4 := by have := ansB_pos a; omega
        have hpk := pickN x n4 hx (by omega) hp4
        have hcp := fun (w' : World) A1 c1 (h1 : Rd.u8.Sl w' A1 n4 (ansB a)) (h2 : n4 ≤ c1) => ((by
          have h := copyBytes_any w' A1 c1 (ansB a) (by rw [hn4]; exact h1) (by rw [hn4]; exact h2) (by omega)
          rw [hn4] at h
          exact h) : Calls Tryz.prog 35 #[.slice A1 n4 c1] w' _)
        have hagm := fun (w' : World) (e : Ext W w') A1 c1 h2 h3 => agetq_any w' A1 (n4 + m) c1 (ansB a ++ more) h2 h3 (by omega) ra (wantG more) hga
        have HN := Lib.hid hn4
        rw [HWT.out] at hagm
        have F14 := Ext.trans F3 hE4
        have hdn : decide ((32768 : Int) < (n4 : Int)) = false := by simp; omega
        clear hn4 hPB hav hga
        go_upto_region 15 with (first | (go_at_call 34; (with_reducible refine (hpk _).mono ?_); rintro e wp ⟨i, rfl, hi, rfl⟩; have hin : i ≤ n4 := Nat.le_of_lt hi; have hic : i ≤ c4 := Nat.le_trans hin hc4) | (refine wpList_slice_to rfl elt_bytes (.tmp 81) (.tmp 85) rfl A4 n4 c4 i rfl rfl hin hc4 ?_) | (go_at_call 29; (with_reducible refine (hagc _ F14 i hi _ _ (sl_take hS4 i hin) hic).mono ?_); rintro e w5 ⟨C5, rfl, o5, hE5⟩; obtain ⟨z1, z2⟩ := (AnsAt.row (AnsOwn.only ‹AnsOwn _ _ _ _ _›)); obtain ⟨V5, hr, D5, hEV5⟩ := box_row w5 46 #[.int .i64 0, .int .i64 0, .slice none 0 0, .string ⟨#[]⟩, .int .i64 0, .slice none 0 0, .int .u8 0, .int .u8 0, .int .u8 0, .int .u8 0, .int .u8 0, .int .u8 0, .int .u8 0, .int .u8 0, .int .u8 0, .int .u8 0, .int .u8 0, .int .u8 0, .int .u8 0, .int .u8 0, .int .u8 0, .int .u8 0, .int .u8 0, .int .u8 0, .int .u8 0, .int .u8 0, .int .u8 0, .int .u8 0, .int .u8 0, .int .u8 0, .int .u8 0, .int .u8 0, .int .u8 0, .int .u8 0, .int .u8 0, .int .u8 0, .int .u8 0, .int .u8 0, .slice none 0 0] C5 z1.symm (by rw [z1]; kernel_rfl) z2) | (refine wpList_store_by rfl rfl ?_ ?_ hr ?_; (· rfl); (· rfl)))
        have X5 := hE5.trans hEV5
        have F5 := Ext.trans F14 X5
        have S5 := Rd.Sl.ext hS4 X5
        have hcp5 := hcp V5 _ _ S5 hc4
        clear hr z1 z2 o5 D5 hE5 hEV5
        go_upto_region 16 with (first | (go_at_call 35; (with_reducible refine hcp5.mono ?_); rintro e w6 ⟨v6, rfl, hown6, hE6⟩; have hcm6 : Cells w6 B m 1 (more.flatMap encB) := b_cells (hSB _ (F5.trans hE6))) | (at_builtin; refine wpList_append_cells rfl elt_bytes (.tmp 92) (.tmp 93) rfl hown6 rfl rfl hcm6 h1m (by unfold maxLen; omega) (by omega) hE6.le ?_; intro v7 w7 hown7 hg7; have hE7 := grown_ext hE6 hown6 hg7; rw [← List.flatMap_append] at hown7; obtain ⟨A7, c7, rfl, hc7, -, hS7⟩ := own_bytes (lo := 0) (hi := w7.heap.size) (l := ansB a ++ more) (by rw [List.length_append, HN.out, HM.out]; exact hown7) (Nat.zero_le _) (Nat.le_refl _); rw [List.length_append, HN.out, HM.out] at hc7 hS7; simp only [List.length_append, HN.out, HM.out]; have hS7 := hS7.mono only_cle; have F7 := F5.trans hE7) | (go_at_call 29; (with_reducible refine (hagm _ F7 _ _ hS7 hc7).mono ?_); rintro e w8 ⟨C8, rfl, o8, hE8⟩; obtain ⟨z1, z2⟩ := (AnsAt.row (AnsOwn.only ‹AnsOwn _ _ _ _ _›)); obtain ⟨V8, hr, D8, hEV8⟩ := box_row w8 46 #[.int .i64 0, .int .i64 0, .slice none 0 0, .string ⟨#[]⟩, .int .i64 0, .slice none 0 0, .int .u8 0, .int .u8 0, .int .u8 0, .int .u8 0, .int .u8 0, .int .u8 0, .int .u8 0, .int .u8 0, .int .u8 0, .int .u8 0, .int .u8 0, .int .u8 0, .int .u8 0, .int .u8 0, .int .u8 0, .int .u8 0, .int .u8 0, .int .u8 0, .int .u8 0, .int .u8 0, .int .u8 0, .int .u8 0, .int .u8 0, .int .u8 0, .int .u8 0, .int .u8 0, .int .u8 0, .int .u8 0, .int .u8 0, .int .u8 0, .int .u8 0, .int .u8 0, .slice none 0 0] C8 z1.symm (by rw [z1]; kernel_rfl) z2) | (refine wpList_store_by rfl rfl ?_ ?_ hr ?_; (· rfl); (· rfl)))
        have X8 := X5.trans (hE7.trans (hE8.trans hEV8))
        have F8 := Ext.trans F14 X8
        clear hr z1 z2 o8 D8 hE8 hEV8 hcm6 hown6 hg7 hown7 hS7 S5 hcp5
        go_upto_region 18 with fail
        go_wp2_with (go_at_call 10; (with_reducible refine (hwo _ F8).mono ?_); rintro e w20 ⟨rfl, hE20⟩)
        go_ret
        exact ⟨rfl, hE.trans (Ext.trans F8 hE20)⟩
      · have h1a : (av == 0) = false := by simpa using h1
        go_upto_region 18 with (first | (refine wpList_load_by rfl rfl ?_ (l2 _ F3) ?_; (· rfl)) | (go_at_call 21; (with_reducible refine (hpa _ F3).mono ?_); rintro e w14 ⟨A4, n4, c4, rfl, hn4, hc4, -, hS4, hE4⟩))
        have F14 := Ext.trans F3 hE4
        clear hn4 hc4 hS4 hE4
        go_wp2_with (go_at_call 10; (with_reducible refine (hwo _ F14).mono ?_); rintro e w20 ⟨rfl, hE20⟩)
        go_ret
        exact ⟨rfl, hE.trans (Ext.trans F14 hE20)⟩
  · have HWT : Hid (wantG more = 5) := Lib.hid (by rw [hwt, if_neg hm0])
    have hm1 : (((m : Int)) == 0) = false := by simp; omega
    have hm2 : (m == 0) = false := by simp; omega
    clear hwt
    go_upto_region 6 with fail
    by_cases h0 : cv = 0
    · have hcv := HCV.out.trans h0
      subst h0
      obtain ⟨rc, hgc⟩ := c_want hcv hi.ints more
      have hLn : (cmdB c).length ≤ 32768 := cmd_len (cmd_fit hcv hi.ints)
      have hPB : putB c = cmdB c := if_pos hcv
      have hcgc := fun (w' : World) (e : Ext W w') (i : Nat) (hi' : i < (cmdB c).length) A1 c1 h2 h3 => cgetq_any w' A1 i c1 ((cmdB c).take i) (hOW w' e) h2 h3 (by omega) zCmd 4 (c_cut c hcv hi.ints i hi')
      go_upto_region 8 with (first | (refine wpList_load_by rfl rfl ?_ (l1 _ hF2) ?_; (· rfl)) | (go_at_call 12; (with_reducible refine (hpu _ hF2).mono ?_); rintro e w3 ⟨A3, n3, c3, rfl, hn3, hc3, -, hS3, hE3⟩))
      rw [hPB] at hn3 hS3
      rw [hn3] at hcgc hLn
      have hS3 := hS3.mono only_cle
      have hp3 : 0 < n3 := by have := cmdB_pos c; omega
      have hpk := pickN x n3 hx (by omega) hp3
      have hcp := fun (w' : World) A1 c1 (h1 : Rd.u8.Sl w' A1 n3 (cmdB c)) (h2 : n3 ≤ c1) => ((by
        have h := copyBytes_any w' A1 c1 (cmdB c) (by rw [hn3]; exact h1) (by rw [hn3]; exact h2) (by omega)
        rw [hn3] at h
        exact h) : Calls Tryz.prog 35 #[.slice A1 n3 c1] w' _)
      have hcgm := fun (w' : World) (e : Ext W w') A1 c1 h2 h3 => cgetq_any w' A1 (n3 + m) c1 (cmdB c ++ more) (hOW w' e) h2 h3 (by omega) rc (wantG more) hgc
      have HN := Lib.hid hn3
      rw [HWT.out] at hcgm
      have F3 := hF2.trans hE3
      have hdn : decide ((32768 : Int) < (n3 : Int)) = false := by simp; omega
      clear hn3 hPB hcv hgc
      go_upto_region 9 with (first | (go_at_call 34; (with_reducible refine (hpk _).mono ?_); rintro e wp ⟨i, rfl, hi, rfl⟩; have hin : i ≤ n3 := Nat.le_of_lt hi; have hic : i ≤ c3 := Nat.le_trans hin hc3) | (refine wpList_slice_to rfl elt_bytes (.tmp 44) (.tmp 48) rfl A3 n3 c3 i rfl rfl hin hc3 ?_) | (go_at_call 27; (with_reducible refine (hcgc _ F3 i hi _ _ (sl_take hS3 i hin) hic).mono ?_); rintro e w5 ⟨C5, rfl, o5, hE5⟩; obtain ⟨z1, z2⟩ := (CmdOwn.row ‹CmdOwn _ _ _ _ _›); obtain ⟨V5, hr, D5, hEV5⟩ := box_row w5 31 #[.int .i64 0, .string ⟨#[]⟩, .int .i64 0, .slice none 0 0, .int .u8 0, .int .u8 0, .int .u8 0, .int .u8 0, .int .u8 0, .int .u8 0, .int .u8 0, .int .u8 0, .int .u8 0, .int .u8 0, .int .u8 0, .int .u8 0, .int .u8 0, .int .u8 0, .int .u8 0, .int .u8 0, .int .u8 0, .int .u8 0, .int .u8 0, .int .u8 0, .int .u8 0, .int .u8 0, .int .u8 0, .int .u8 0, .int .u8 0, .int .u8 0, .int .u8 0, .int .u8 0, .int .u8 0, .int .u8 0, .int .u8 0, .int .u8 0, .string ⟨#[]⟩, .string ⟨#[]⟩, .int .i64 0, .slice none 0 0, .int .i64 0, .int .i64 0, .int .i64 0, .string ⟨#[]⟩, .bool false, .int .i64 0, .int .i64 0] C5 z1.symm (by rw [z1]; kernel_rfl) z2) | (refine wpList_store_by rfl rfl ?_ ?_ hr ?_; (· rfl); (· rfl)))
      have X5 := hE5.trans hEV5
      have F5 := Ext.trans F3 X5
      have S5 := Rd.Sl.ext hS3 X5
      have hcp5 := hcp V5 _ _ S5 hc3
      clear hr z1 z2 o5 D5 hE5 hEV5
      go_upto_region 10 with (first | (go_at_call 35; (with_reducible refine hcp5.mono ?_); rintro e w6 ⟨v6, rfl, hown6, hE6⟩; have hcm6 : Cells w6 B m 1 (more.flatMap encB) := b_cells (hSB _ (F5.trans hE6))) | (at_builtin; refine wpList_append_cells rfl elt_bytes (.tmp 55) (.tmp 56) rfl hown6 rfl rfl hcm6 h1m (by unfold maxLen; omega) (by omega) hE6.le ?_; intro v7 w7 hown7 hg7; have hE7 := grown_ext hE6 hown6 hg7; rw [← List.flatMap_append] at hown7; obtain ⟨A7, c7, rfl, hc7, -, hS7⟩ := own_bytes (lo := 0) (hi := w7.heap.size) (l := cmdB c ++ more) (by rw [List.length_append, HN.out, HM.out]; exact hown7) (Nat.zero_le _) (Nat.le_refl _); rw [List.length_append, HN.out, HM.out] at hc7 hS7; simp only [List.length_append, HN.out, HM.out]; have hS7 := hS7.mono only_cle; have F7 := F5.trans hE7) | (go_at_call 27; (with_reducible refine (hcgm _ F7 _ _ hS7 hc7).mono ?_); rintro e w8 ⟨C8, rfl, o8, hE8⟩; obtain ⟨z1, z2⟩ := (CmdOwn.row ‹CmdOwn _ _ _ _ _›); obtain ⟨V8, hr, D8, hEV8⟩ := box_row w8 31 #[.int .i64 0, .string ⟨#[]⟩, .int .i64 0, .slice none 0 0, .int .u8 0, .int .u8 0, .int .u8 0, .int .u8 0, .int .u8 0, .int .u8 0, .int .u8 0, .int .u8 0, .int .u8 0, .int .u8 0, .int .u8 0, .int .u8 0, .int .u8 0, .int .u8 0, .int .u8 0, .int .u8 0, .int .u8 0, .int .u8 0, .int .u8 0, .int .u8 0, .int .u8 0, .int .u8 0, .int .u8 0, .int .u8 0, .int .u8 0, .int .u8 0, .int .u8 0, .int .u8 0, .int .u8 0, .int .u8 0, .int .u8 0, .int .u8 0, .string ⟨#[]⟩, .string ⟨#[]⟩, .int .i64 0, .slice none 0 0, .int .i64 0, .int .i64 0, .int .i64 0, .string ⟨#[]⟩, .bool false, .int .i64 0, .int .i64 0] C8 z1.symm (by rw [z1]; kernel_rfl) z2) | (refine wpList_store_by rfl rfl ?_ ?_ hr ?_; (· rfl); (· rfl)))
      have X8 := X5.trans (hE7.trans (hE8.trans hEV8))
      have F8 := Ext.trans F3 X8
      clear hr z1 z2 o8 D8 hE8 hEV8 hcm6 hown6 hg7 hown7 hS7 S5 hcp5
      go_upto_region 12 with fail
      clear hpk hcp hcgc hcgm hdn HN hS3 hp3 hLn X8 X5 F5 hc3
      by_cases h1 : av = 0
      · have hav := HAV.out.trans h1
        subst h1
        obtain ⟨ra, hga⟩ := a_want hav hia.ints more
        have hLn : (ansB a).length ≤ 32768 := ans_len (ans_fit hav hia.ints)
        have hPB : putAB a = ansB a := if_pos hav
        have hagc := fun (w' : World) (e : Ext W w') (i : Nat) (hi : i < (ansB a).length) A1 c1 h2 h3 => agetq_any w' A1 i c1 ((ansB a).take i) h2 h3 (by omega) zAns 4 (a_cut a hav hia.ints i hi)
        go_upto_region 14 with (first | (refine wpList_load_by rfl rfl ?_ (l2 _ F8) ?_; (· rfl)) | (go_at_call 21; (with_reducible refine (hpa _ F8).mono ?_); rintro e w14 ⟨A4, n4, c4, rfl, hn4, hc4, -, hS4, hE4⟩))
        rw [hPB] at hn4 hS4
        rw [hn4] at hagc hLn
        have hS4 := hS4.mono only_cle
        have hp4 : 0 < n4 := by have := ansB_pos a; omega
        have hpk := pickN x n4 hx (by omega) hp4
        have hcp := fun (w' : World) A1 c1 (h1 : Rd.u8.Sl w' A1 n4 (ansB a)) (h2 : n4 ≤ c1) => ((by
          have h := copyBytes_any w' A1 c1 (ansB a) (by rw [hn4]; exact h1) (by rw [hn4]; exact h2) (by omega)
          rw [hn4] at h
          exact h) : Calls Tryz.prog 35 #[.slice A1 n4 c1] w' _)
        have hagm := fun (w' : World) (e : Ext W w') A1 c1 h2 h3 => agetq_any w' A1 (n4 + m) c1 (ansB a ++ more) h2 h3 (by omega) ra (wantG more) hga
        have HN := Lib.hid hn4
        rw [HWT.out] at hagm
        have F14 := Ext.trans F8 hE4
        have hdn : decide ((32768 : Int) < (n4 : Int)) = false := by simp; omega
        clear hn4 hPB hav hga
        go_upto_region 15 with (first | (go_at_call 34; (with_reducible refine (hpk _).mono ?_); rintro e wp ⟨i, rfl, hi, rfl⟩; have hin : i ≤ n4 := Nat.le_of_lt hi; have hic : i ≤ c4 := Nat.le_trans hin hc4) | (refine wpList_slice_to rfl elt_bytes (.tmp 81) (.tmp 85) rfl A4 n4 c4 i rfl rfl hin hc4 ?_) | (go_at_call 29; (with_reducible refine (hagc _ F14 i hi _ _ (sl_take hS4 i hin) hic).mono ?_); rintro e w5 ⟨C5, rfl, o5, hE5⟩; obtain ⟨z1, z2⟩ := (AnsAt.row (AnsOwn.only ‹AnsOwn _ _ _ _ _›)); obtain ⟨V5, hr, D5, hEV5⟩ := box_row w5 46 #[.int .i64 0, .int .i64 0, .slice none 0 0, .string ⟨#[]⟩, .int .i64 0, .slice none 0 0, .int .u8 0, .int .u8 0, .int .u8 0, .int .u8 0, .int .u8 0, .int .u8 0, .int .u8 0, .int .u8 0, .int .u8 0, .int .u8 0, .int .u8 0, .int .u8 0, .int .u8 0, .int .u8 0, .int .u8 0, .int .u8 0, .int .u8 0, .int .u8 0, .int .u8 0, .int .u8 0, .int .u8 0, .int .u8 0, .int .u8 0, .int .u8 0, .int .u8 0, .int .u8 0, .int .u8 0, .int .u8 0, .int .u8 0, .int .u8 0, .int .u8 0, .int .u8 0, .slice none 0 0] C5 z1.symm (by rw [z1]; kernel_rfl) z2) | (refine wpList_store_by rfl rfl ?_ ?_ hr ?_; (· rfl); (· rfl)))
        have X5 := hE5.trans hEV5
        have F5 := Ext.trans F14 X5
        have S5 := Rd.Sl.ext hS4 X5
        have hcp5 := hcp V5 _ _ S5 hc4
        clear hr z1 z2 o5 D5 hE5 hEV5
        go_upto_region 16 with (first | (go_at_call 35; (with_reducible refine hcp5.mono ?_); rintro e w6 ⟨v6, rfl, hown6, hE6⟩; have hcm6 : Cells w6 B m 1 (more.flatMap encB) := b_cells (hSB _ (F5.trans hE6))) | (at_builtin; refine wpList_append_cells rfl elt_bytes (.tmp 92) (.tmp 93) rfl hown6 rfl rfl hcm6 h1m (by unfold maxLen; omega) (by omega) hE6.le ?_; intro v7 w7 hown7 hg7; have hE7 := grown_ext hE6 hown6 hg7; rw [← List.flatMap_append] at hown7; obtain ⟨A7, c7, rfl, hc7, -, hS7⟩ := own_bytes (lo := 0) (hi := w7.heap.size) (l := ansB a ++ more) (by rw [List.length_append, HN.out, HM.out]; exact hown7) (Nat.zero_le _) (Nat.le_refl _); rw [List.length_append, HN.out, HM.out] at hc7 hS7; simp only [List.length_append, HN.out, HM.out]; have hS7 := hS7.mono only_cle; have F7 := F5.trans hE7) | (go_at_call 29; (with_reducible refine (hagm _ F7 _ _ hS7 hc7).mono ?_); rintro e w8 ⟨C8, rfl, o8, hE8⟩; obtain ⟨z1, z2⟩ := (AnsAt.row (AnsOwn.only ‹AnsOwn _ _ _ _ _›)); obtain ⟨V8, hr, D8, hEV8⟩ := box_row w8 46 #[.int .i64 0, .int .i64 0, .slice none 0 0, .string ⟨#[]⟩, .int .i64 0, .slice none 0 0, .int .u8 0, .int .u8 0, .int .u8 0, .int .u8 0, .int .u8 0, .int .u8 0, .int .u8 0, .int .u8 0, .int .u8 0, .int .u8 0, .int .u8 0, .int .u8 0, .int .u8 0, .int .u8 0, .int .u8 0, .int .u8 0, .int .u8 0, .int .u8 0, .int .u8 0, .int .u8 0, .int .u8 0, .int .u8 0, .int .u8 0, .int .u8 0, .int .u8 0, .int .u8 0, .int .u8 0, .int .u8 0, .int .u8 0, .int .u8 0, .int .u8 0, .int .u8 0, .slice none 0 0] C8 z1.symm (by rw [z1]; kernel_rfl) z2) | (refine wpList_store_by rfl rfl ?_ ?_ hr ?_; (· rfl); (· rfl)))
        have X8 := X5.trans (hE7.trans (hE8.trans hEV8))
        have F8 := Ext.trans F14 X8
        clear hr z1 z2 o8 D8 hE8 hEV8 hcm6 hown6 hg7 hown7 hS7 S5 hcp5
        go_upto_region 18 with fail
        go_wp2_with (go_at_call 10; (with_reducible refine (hwo _ F8).mono ?_); rintro e w20 ⟨rfl, hE20⟩)
        go_ret
        exact ⟨rfl, hE.trans (Ext.trans F8 hE20)⟩
      · have h1a : (av == 0) = false := by simpa using h1
        go_upto_region 18 with (first | (refine wpList_load_by rfl rfl ?_ (l2 _ F8) ?_; (· rfl)) | (go_at_call 21; (with_reducible refine (hpa _ F8).mono ?_); rintro e w14 ⟨A4, n4, c4, rfl, hn4, hc4, -, hS4, hE4⟩))
        have F14 := Ext.trans F8 hE4
        clear hn4 hc4 hS4 hE4
        go_wp2_with (go_at_call 10; (with_reducible refine (hwo _ F14).mono ?_); rintro e w20 ⟨rfl, hE20⟩)
        go_ret
        exact ⟨rfl, hE.trans (Ext.trans F14 hE20)⟩
    · have h0a : (cv == 0) = false := by simpa using h0
      go_upto_region 12 with (first | (refine wpList_load_by rfl rfl ?_ (l1 _ hF2) ?_; (· rfl)) | (go_at_call 12; (with_reducible refine (hpu _ hF2).mono ?_); rintro e w3 ⟨A3, n3, c3, rfl, hn3, hc3, -, hS3, hE3⟩))
      have F3 := hF2.trans hE3
      clear hn3 hc3 hS3 hE3
      by_cases h1 : av = 0
      · have hav := HAV.out.trans h1
        subst h1
        obtain ⟨ra, hga⟩ := a_want hav hia.ints more
        have hLn : (ansB a).length ≤ 32768 := ans_len (ans_fit hav hia.ints)
        have hPB : putAB a = ansB a := if_pos hav
        have hagc := fun (w' : World) (e : Ext W w') (i : Nat) (hi : i < (ansB a).length) A1 c1 h2 h3 => agetq_any w' A1 i c1 ((ansB a).take i) h2 h3 (by omega) zAns 4 (a_cut a hav hia.ints i hi)
        go_upto_region 14 with (first | (refine wpList_load_by rfl rfl ?_ (l2 _ F3) ?_; (· rfl)) | (go_at_call 21; (with_reducible refine (hpa _ F3).mono ?_); rintro e w14 ⟨A4, n4, c4, rfl, hn4, hc4, -, hS4, hE4⟩))
        rw [hPB] at hn4 hS4
        rw [hn4] at hagc hLn
        have hS4 := hS4.mono only_cle
        have hp4 : 0 < n4 := by have := ansB_pos a; omega
        have hpk := pickN x n4 hx (by omega) hp4
        have hcp := fun (w' : World) A1 c1 (h1 : Rd.u8.Sl w' A1 n4 (ansB a)) (h2 : n4 ≤ c1) => ((by
          have h := copyBytes_any w' A1 c1 (ansB a) (by rw [hn4]; exact h1) (by rw [hn4]; exact h2) (by omega)
          rw [hn4] at h
          exact h) : Calls Tryz.prog 35 #[.slice A1 n4 c1] w' _)
        have hagm := fun (w' : World) (e : Ext W w') A1 c1 h2 h3 => agetq_any w' A1 (n4 + m) c1 (ansB a ++ more) h2 h3 (by omega) ra (wantG more) hga
        have HN := Lib.hid hn4
        rw [HWT.out] at hagm
        have F14 := Ext.trans F3 hE4
        have hdn : decide ((32768 : Int) < (n4 : Int)) = false := by simp; omega
        clear hn4 hPB hav hga
        go_upto_region 15 with (first | (go_at_call 34; (with_reducible refine (hpk _).mono ?_); rintro e wp ⟨i, rfl, hi, rfl⟩; have hin : i ≤ n4 := Nat.le_of_lt hi; have hic : i ≤ c4 := Nat.le_trans hin hc4) | (refine wpList_slice_to rfl elt_bytes (.tmp 81) (.tmp 85) rfl A4 n4 c4 i rfl rfl hin hc4 ?_) | (go_at_call 29; (with_reducible refine (hagc _ F14 i hi _ _ (sl_take hS4 i hin) hic).mono ?_); rintro e w5 ⟨C5, rfl, o5, hE5⟩; obtain ⟨z1, z2⟩ := (AnsAt.row (AnsOwn.only ‹AnsOwn _ _ _ _ _›)); obtain ⟨V5, hr, D5, hEV5⟩ := box_row w5 46 #[.int .i64 0, .int .i64 0, .slice none 0 0, .string ⟨#[]⟩, .int .i64 0, .slice none 0 0, .int .u8 0, .int .u8 0, .int .u8 0, .int .u8 0, .int .u8 0, .int .u8 0, .int .u8 0, .int .u8 0, .int .u8 0, .int .u8 0, .int .u8 0, .int .u8 0, .int .u8 0, .int .u8 0, .int .u8 0, .int .u8 0, .int .u8 0, .int .u8 0, .int .u8 0, .int .u8 0, .int .u8 0, .int .u8 0, .int .u8 0, .int .u8 0, .int .u8 0, .int .u8 0, .int .u8 0, .int .u8 0, .int .u8 0, .int .u8 0, .int .u8 0, .int .u8 0, .slice none 0 0] C5 z1.symm (by rw [z1]; kernel_rfl) z2) | (refine wpList_store_by rfl rfl ?_ ?_ hr ?_; (· rfl); (· rfl)))
        have X5 := hE5.trans hEV5
        have F5 := Ext.trans F14 X5
        have S5 := Rd.Sl.ext hS4 X5
        have hcp5 := hcp V5 _ _ S5 hc4
        clear hr z1 z2 o5 D5 hE5 hEV5
        go_upto_region 16 with (first | (go_at_call 35; (with_reducible refine hcp5.mono ?_); rintro e w6 ⟨v6, rfl, hown6, hE6⟩; have hcm6 : Cells w6 B m 1 (more.flatMap encB) := b_cells (hSB _ (F5.trans hE6))) | (at_builtin; refine wpList_append_cells rfl elt_bytes (.tmp 92) (.tmp 93) rfl hown6 rfl rfl hcm6 h1m (by unfold maxLen; omega) (by omega) hE6.le ?_; intro v7 w7 hown7 hg7; have hE7 := grown_ext hE6 hown6 hg7; rw [← List.flatMap_append] at hown7; obtain ⟨A7, c7, rfl, hc7, -, hS7⟩ := own_bytes (lo := 0) (hi := w7.heap.size) (l := ansB a ++ more) (by rw [List.length_append, HN.out, HM.out]; exact hown7) (Nat.zero_le _) (Nat.le_refl _); rw [List.length_append, HN.out, HM.out] at hc7 hS7; simp only [List.length_append, HN.out, HM.out]; have hS7 := hS7.mono only_cle; have F7 := F5.trans hE7) | (go_at_call 29; (with_reducible refine (hagm _ F7 _ _ hS7 hc7).mono ?_); rintro e w8 ⟨C8, rfl, o8, hE8⟩; obtain ⟨z1, z2⟩ := (AnsAt.row (AnsOwn.only ‹AnsOwn _ _ _ _ _›)); obtain ⟨V8, hr, D8, hEV8⟩ := box_row w8 46 #[.int .i64 0, .int .i64 0, .slice none 0 0, .string ⟨#[]⟩, .int .i64 0, .slice none 0 0, .int .u8 0, .int .u8 0, .int .u8 0, .int .u8 0, .int .u8 0, .int .u8 0, .int .u8 0, .int .u8 0, .int .u8 0, .int .u8 0, .int .u8 0, .int .u8 0, .int .u8 0, .int .u8 0, .int .u8 0, .int .u8 0, .int .u8 0, .int .u8 0, .int .u8 0, .int .u8 0, .int .u8 0, .int .u8 0, .int .u8 0, .int .u8 0, .int .u8 0, .int .u8 0, .int .u8 0, .int .u8 0, .int .u8 0, .int .u8 0, .int .u8 0, .int .u8 0, .slice none 0 0] C8 z1.symm (by rw [z1]; kernel_rfl) z2) | (refine wpList_store_by rfl rfl ?_ ?_ hr ?_; (· rfl); (· rfl)))
        have X8 := X5.trans (hE7.trans (hE8.trans hEV8))
        have F8 := Ext.trans F14 X8
        clear hr z1 z2 o8 D8 hE8 hEV8 hcm6 hown6 hg7 hown7 hS7 S5 hcp5
        go_upto_region 18 with fail
        go_wp2_with (go_at_call 10; (with_reducible refine (hwo _ F8).mono ?_); rintro e w20 ⟨rfl, hE20⟩)
        go_ret
        exact ⟨rfl, hE.trans (Ext.trans F8 hE20)⟩
      · have h1a : (av == 0) = false := by simpa using h1
        go_upto_region 18 with (first | (refine wpList_load_by rfl rfl ?_ (l2 _ F3) ?_; (· rfl)) | (go_at_call 21; (with_reducible refine (hpa _ F3).mono ?_); rintro e w14 ⟨A4, n4, c4, rfl, hn4, hc4, -, hS4, hE4⟩))
        have F14 := Ext.trans F3 hE4
        clear hn4 hc4 hS4 hE4
        go_wp2_with (go_at_call 10; (with_reducible refine (hwo _ F14).mono ?_); rintro e w20 ⟨rfl, hE20⟩)
        go_ret
        exact ⟨rfl, hE.trans (Ext.trans F14 hE20)⟩
end Go.Proofs.YtgfhbachgniipaaGreatDoor
