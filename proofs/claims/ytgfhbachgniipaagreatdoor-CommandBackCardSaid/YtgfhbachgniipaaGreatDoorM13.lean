/- The law CommandBack, walked. (and what follows) -/
import Derived.Test.YtgfhbachgniipaaGreatDoorMz
import Derived.Test.YtgfhbachgniipaaGreatDoorM12
set_option linter.unusedVariables false
set_option linter.unusedSimpArgs false
namespace Go.Proofs.YtgfhbachgniipaaGreatDoor
open Go.RowKit
theorem samez_any (w : World) (C : Array Value) (h : CmdAt w zCmd C) : Calls Tryz.prog 18 #[.agg C, .agg #[.int .i64 0, .string ⟨#[]⟩, .int .i64 0, .slice none 0 0, .int .u8 0, .int .u8 0, .int .u8 0, .int .u8 0, .int .u8 0, .int .u8 0, .int .u8 0, .int .u8 0, .int .u8 0, .int .u8 0, .int .u8 0, .int .u8 0, .int .u8 0, .int .u8 0, .int .u8 0, .int .u8 0, .int .u8 0, .int .u8 0, .int .u8 0, .int .u8 0, .int .u8 0, .int .u8 0, .int .u8 0, .int .u8 0, .int .u8 0, .int .u8 0, .int .u8 0, .int .u8 0, .int .u8 0, .int .u8 0, .int .u8 0, .int .u8 0, .string ⟨#[]⟩, .string ⟨#[]⟩, .int .i64 0, .slice none 0 0, .int .i64 0, .int .i64 0, .int .i64 0, .string ⟨#[]⟩, .bool false, .int .i64 0, .int .i64 0]] w fun e w' => e = .returned (.bool true) ∧ Ext w w' :=
  samecq_any w zCmd C (cmdA zCmd (.slice none 0 0) (.slice none 0 0)) h ⟨_, _, rfl, GsV.nil _, BsV.nil _⟩ zCmd_fit.fitL.len
theorem sameza_any (w : World) (C : Array Value) (h : AnsAt w zAns C) : Calls Tryz.prog 25 #[.agg C, .agg #[.int .i64 0, .int .i64 0, .slice none 0 0, .string ⟨#[]⟩, .int .i64 0, .slice none 0 0, .int .u8 0, .int .u8 0, .int .u8 0, .int .u8 0, .int .u8 0, .int .u8 0, .int .u8 0, .int .u8 0, .int .u8 0, .int .u8 0, .int .u8 0, .int .u8 0, .int .u8 0, .int .u8 0, .int .u8 0, .int .u8 0, .int .u8 0, .int .u8 0, .int .u8 0, .int .u8 0, .int .u8 0, .int .u8 0, .int .u8 0, .int .u8 0, .int .u8 0, .int .u8 0, .int .u8 0, .int .u8 0, .int .u8 0, .int .u8 0, .int .u8 0, .int .u8 0, .slice none 0 0]] w fun e w' => e = .returned (.bool true) ∧ Ext w w' :=
  sameaq_any w zAns C (ansA zAns (.slice none 0 0) (.slice none 0 0) (.slice none 0 0)) h ⟨_, _, _, rfl, HsV.nil _, GsV.nil _, EsV.nil _⟩ zAns_fit.fitL.len
theorem putB_none {c : Cmd} (h : cmdG c ≠ 0) : putB c = [] := if_neg h
theorem putAB_none {c : Ans} (h : ansG c ≠ 0) : putAB c = [] := if_neg h
theorem over_row {w : World} {g : Nat} {T : TypeId} {Z C : Array Value} (B : Blk w g T Z) (hs : Z.size = C.size) (hi : (Tryz.prog.info? T).map (·.size) = some C.size) (h1 : C.all (·.oneCell') = true) : ∃ w', (Instr.storeAt T (.pointer (some ⟨g, 0, none⟩)) (.agg C)).run Tryz.prog w = .ok () w' ∧ Blk w' g T C ∧ Exc g (g + 1) w w' := by
  obtain ⟨w', hr, hB, hX⟩ := store_part B 0 C [] Z.toList [] (by simp) rfl (by simpa using hs) T hi h1
  exact ⟨w', hr, by simpa using hB, hX⟩
theorem back1 {c : Cmd} (hi : CmdInts c) {r : Cmd} {v : Int} (hg : getC (putB c) = (r, v)) (h : cmdG c = 0) : r = c ∧ v = 0 := by
  have h1 := c_back c h hi
  have e : putB c = cmdB c := if_pos h
  rw [← e, hg] at h1
  exact ⟨congrArg Prod.fst h1, congrArg Prod.snd h1⟩
theorem back2 {c : Ans} (hi : AnsInts c) {r : Ans} {v : Int} (hg : getA (putAB c) = (r, v)) (h : ansG c = 0) : r = c ∧ v = 0 := by
  have h1 := a_back c h hi
  have e : putAB c = ansB c := if_pos h
  rw [← e, hg] at h1
  exact ⟨congrArg Prod.fst h1, congrArg Prod.snd h1⟩
theorem putq_of {w : World} {r : Cmd} {C : Array Value} {l : List UInt8} (hO : OfAt w) (h : CmdAt w r C) (hr : cmdG r = 0 ∧ cmdB r = l ∧ CmdFit r) : Calls Tryz.prog 12 #[.agg C] w fun e w' => ∃ A n c, e = .returned (.tuple #[.slice A n c, .int .i64 0]) ∧ l.length = n ∧ n ≤ c ∧ Rd.u8.Sl w' A n l ∧ Ext w w' := by
  refine (cputq_any w r C hO h hr.2.2.fitL).mono ?_
  rintro e w' ⟨A, n, c, rfl, h1, h2, -, h3, h4⟩
  have hp : putB r = l := (if_pos hr.1 : putB r = cmdB r).trans hr.2.1
  rw [hp] at h1 h3
  exact ⟨A, n, c, by rw [hr.1], h1, h2, h3.mono only_cle, h4⟩
theorem aputq_of {w : World} {r : Ans} {C : Array Value} {l : List UInt8} (h : AnsAt w r C) (hr : ansG r = 0 ∧ ansB r = l ∧ AnsFit r) : Calls Tryz.prog 21 #[.agg C] w fun e w' => ∃ A n c, e = .returned (.tuple #[.slice A n c, .int .i64 0]) ∧ l.length = n ∧ n ≤ c ∧ Rd.u8.Sl w' A n l ∧ Ext w w' := by
  refine (aputq_any w r C h hr.2.2.fitL).mono ?_
  rintro e w' ⟨A, n, c, rfl, h1, h2, -, h3, h4⟩
  have hp : putAB r = l := (if_pos hr.1 : putAB r = ansB r).trans hr.2.1
  rw [hp] at h1 h3
  exact ⟨A, n, c, by rw [hr.1], h1, h2, h3.mono only_cle, h4⟩
def puts (a : Act) (L : List (Tmp × Value)) : Act := L.foldl (fun a x => a.put (some x.1) x.2) a
theorem pl_deadK {P : Program} {ops : Array Oper} {Q : Exit → Act → World → Prop} {w : World} : ∀ (k : Nat) (r : List Oper) (a a' : Act), deadRun ops (r.take k) a = some a' → wpList P ops Q (r.drop k) a' w → wpList P ops Q r a w
  | 0, r, a, a', h, hk => by
    simp only [List.take_zero, deadRun, Option.some.injEq] at h
    subst h
    simpa using hk
  | k + 1, [], a, a', h, hk => by
    simp only [List.take_nil, deadRun, Option.some.injEq] at h
    subst h
    simpa using hk
  | k + 1, o :: r, a, a', h, hk => by
    rw [List.take_succ_cons] at h
    unfold deadRun at h
    cases hs : deadStep ops o a with
    | none => rw [hs] at h; cases h
    | some a1 =>
      rw [hs] at h
      rw [List.drop_succ_cons] at hk
      unfold wpList
      rcases deadStep_spec (P := P) hs with ⟨hw, rfl⟩ | ⟨hw, v, rfl, hr⟩
      · rw [hw]; exact pl_deadK k r _ _ h hk
      · rw [if_pos hw]
        refine .inl ?_
        unfold Oper.wp
        rw [hr]
        exact pl_deadK k r _ _ h hk
theorem pl_deadP {P : Program} {ops : Array Oper} {Q : Exit → Act → World → Prop} {w : World} {r r' : List Oper} {a a' : Act} (k : Nat) (L : List (Tmp × Value)) (hr : r.drop k = r') (h : deadRun ops (r.take k) a = some (puts a L)) (ha : puts a L = a') (hk : wpList P ops Q r' a' w) : wpList P ops Q r a w := by
  subst hr ha
  exact pl_deadK k r a _ h hk
set_option maxHeartbeats 9000000 in
set_option maxRecDepth 100000 in
theorem back_walk (w : World) (c : Cmd) (C : Array Value) (a : Ans) (D : Array Value) (A : Option Addr) (m : Nat) (l : List UInt8) (hO : OfAt w) (h : CmdAt w c C) (hi : CmdCome c) (ha : AnsAt w a D) (hia : AnsCome a) (hS : Rd.u8.Sl w A l.length l) (hc : l.length ≤ m) (hn : l.length ≤ 140737488351232) :
    Calls Tryz.prog 6 #[.agg C, .agg D, .slice A l.length m] w fun e w' => e = .returned (.bool true) ∧ Ext w w' := by
  obtain ⟨hC1, hC2⟩ := h.row
  obtain ⟨hD1, hD2⟩ := ha.row
  obtain ⟨n, hln⟩ : ∃ n, l.length = n := ⟨_, rfl⟩
  obtain ⟨W, hW, hE, -, -⟩ := box2 w C D 31 46
  have B1 : Blk W w.heap.size 31 C := by rw [hW]; exact (Blk.new _ _ _).alloc _
  have B2 : Blk W (w.heap.size + 1) 46 D := by rw [hW]; have := Blk.new (w.alloc (.cells C 31)) 46 D; simpa using this
  have l1 := fun (w' : World) (e : Ext W w') => load_whole (B1.ext e) 31 _ Tryz.underlying31 rfl (by rw [hC1]; kernel_rfl)
  have l2 := fun (w' : World) (e : Ext W w') => load_whole (B2.ext e) 46 _ Tryz.underlying46 rfl (by rw [hD1]; kernel_rfl)
  have hCW := fun (w' : World) (e : Ext w w') => h.ext e
  have hDW := fun (w' : World) (e : Ext w w') => ha.ext e
  have hOW := fun (w' : World) (e : Ext w w') => hO.ext e
  have hSW := fun (w' : World) (e : Ext w w') => hS.ext e
  have hwo := fun (w' : World) (e : Ext w w') => works_any w' (hOW w' e)
  have hbg := bigq_any W c C (hCW W hE) hi
  have hgr := fun (w' : World) (e : Ext w w') => greatq_any w' a D (hDW w' e) hia
  rw [hln] at hSW hc hn ⊢
  have HL := Lib.hid hln
  clear h ha hO hS B1 B2 hln
  go_enter Tryz.func6, Tryz.ntmps6
  go_upto_region 1 with fail
  rw [← hW]
  clear hW
  refine wp_region_lit ?_
  refine pl_y (v := ?_) (a' := ?_) rfl (by rfl) ?_ ?_ ?_
  rotate_left 2
  · (refine (run_op_load rfl ?_ ((l1 _ (Ext.refl _)))).trans ?_; (· rfl); (· with_reducible rfl))
  · simp only [Act.put, zzA, zz0, zzS]; rfl
  refine pl_call (args := ?_) Tryz.func9 (by kernel_rfl) rfl (by rfl) rfl rfl ?_ ?_
  rotate_left 1
  · go_simp; with_reducible rfl
  (with_reducible refine (hbg).mono ?_)
  rintro e w1 ⟨v1, rfl, hv1, hE1⟩
  refine ⟨_, _, rfl, (by simp only [Act.put, zzA, zz0, zzS]; rfl), ?_⟩
  have hF1 := hE.trans hE1
  cases v1
  rotate_left 1
  · iterate 9 (first | (refine pl_off (a' := ?_) rfl (by rfl) ?_ ?_; rotate_left 1; (· simp only [Act.put, zzA, zz0, zzS]; rfl)) | (refine pl_y (v := ?_) (a' := ?_) rfl (by rfl) ?_ ?_ ?_; rotate_left 2; (· go_simp; with_reducible rfl); (· simp only [Act.put, zzA, zz0, zzS]; rfl)))
    refine wpList_nil ?_
    go_wp2_with (go_at_call 10; (with_reducible refine (hwo _ hF1).mono ?_); rintro e w9 ⟨rfl, hE9⟩)
    go_ret
    exact ⟨rfl, hF1.trans hE9⟩
  have hf := hv1 rfl
  iterate 1 (first | (refine pl_off (a' := ?_) rfl (by rfl) ?_ ?_; rotate_left 1; (· simp only [Act.put, zzA, zz0, zzS]; rfl)) | (refine pl_y (v := ?_) (a' := ?_) rfl (by rfl) ?_ ?_ ?_; rotate_left 2; (· go_simp; with_reducible rfl); (· simp only [Act.put, zzA, zz0, zzS]; rfl)))
  refine pl_y (v := ?_) (a' := ?_) rfl (by rfl) ?_ ?_ ?_
  rotate_left 2
  · (refine (run_op_load rfl ?_ ((l2 _ hE1))).trans ?_; (· rfl); (· with_reducible rfl))
  · simp only [Act.put, zzA, zz0, zzS]; rfl
  refine pl_call (args := ?_) Tryz.func19 (by kernel_rfl) rfl (by rfl) rfl rfl ?_ ?_
  rotate_left 1
  · go_simp; with_reducible rfl
  (with_reducible refine (hgr _ hF1).mono ?_)
  rintro e w2 ⟨v2, rfl, hv2, hE2⟩
  refine ⟨_, _, rfl, (by simp only [Act.put, zzA, zz0, zzS]; rfl), ?_⟩
  have hF2 := hF1.trans hE2
  cases v2
  rotate_left 1
  · iterate 6 (first | (refine pl_off (a' := ?_) rfl (by rfl) ?_ ?_; rotate_left 1; (· simp only [Act.put, zzA, zz0, zzS]; rfl)) | (refine pl_y (v := ?_) (a' := ?_) rfl (by rfl) ?_ ?_ ?_; rotate_left 2; (· go_simp; with_reducible rfl); (· simp only [Act.put, zzA, zz0, zzS]; rfl)))
    refine wpList_nil ?_
    go_wp2_with (go_at_call 10; (with_reducible refine (hwo _ hF2).mono ?_); rintro e w9 ⟨rfl, hE9⟩)
    go_ret
    exact ⟨rfl, hF2.trans hE9⟩
  have hfa := hv2 rfl
  by_cases hbig : 32768 < n
  · iterate 6 (first | (refine pl_off (a' := ?_) rfl (by rfl) ?_ ?_; rotate_left 1; (· simp only [Act.put, zzA, zz0, zzS]; rfl)) | (refine pl_y (v := ?_) (a' := ?_) rfl (by rfl) ?_ ?_ ?_; rotate_left 2; (· go_simp; with_reducible rfl); (· simp only [Act.put, zzA, zz0, zzS]; rfl)))
    refine wpList_nil ?_
    go_wp2_with (go_at_call 10; (with_reducible refine (hwo _ hF2).mono ?_); rintro e w9 ⟨rfl, hE9⟩)
    go_ret
    exact ⟨rfl, hF2.trans hE9⟩
  iterate 6 (first | (refine pl_off (a' := ?_) rfl (by rfl) ?_ ?_; rotate_left 1; (· simp only [Act.put, zzA, zz0, zzS]; rfl)) | (refine pl_y (v := ?_) (a' := ?_) rfl (by rfl) ?_ ?_ ?_; rotate_left 2; (· go_simp; with_reducible rfl); (· simp only [Act.put, zzA, zz0, zzS]; rfl)))
  refine wpList_nil ?_
  clear hv1 hv2 hbg hgr
  have hpu := fun (w' : World) (e : Ext w w') => cputq_any w' c C (hOW w' e) (hCW w' e) hf
  have hpa := fun (w' : World) (e : Ext w w') => aputq_any w' a D (hDW w' e) hfa
  have hck := fun (w' : World) (e : Ext w w') => ccheckq_any w' c C (hOW w' e) (hCW w' e) hf.len
  have hcka := fun (w' : World) (e : Ext w w') => acheckq_any w' a D (hDW w' e) hfa.len
  unfold PutQ at hpu hpa
  have hLc := putB_len hf
  have hLa := putAB_len hfa
  have hEW1 := hE1.trans hE2
  have l1 := fun (w' : World) (e : Ext w2 w') => l1 w' (hEW1.trans e)
  have l2 := fun (w' : World) (e : Ext w2 w') => l2 w' (hEW1.trans e)
  obtain ⟨cv, hcv⟩ : ∃ z, cmdG c = z := ⟨_, rfl⟩
  obtain ⟨av, hav⟩ : ∃ z, ansG a = z := ⟨_, rfl⟩
  rw [hcv] at hpu hck
  rw [hav] at hpa hcka
  have HCV := Lib.hid hcv
  have HAV := Lib.hid hav
  clear hcv hav hEW1 hE1 hE2 hF1
  go_upto_region 5 with (first | (refine wpList_load_by rfl rfl ?_ (l1 _ (Ext.refl _)) ?_; (· rfl)) | (go_at_call 12; (with_reducible refine (hpu _ hF2).mono ?_); rintro e w3 ⟨A3, n3, c3, rfl, hn3, hc3, -, hS3, hE3⟩) | (refine wpList_load_by rfl rfl ?_ (l2 _ hE3) ?_; (· rfl)) | (go_at_call 21; (with_reducible refine (hpa _ (hF2.trans hE3)).mono ?_); rintro e w4 ⟨A4, n4, c4, rfl, hn4, hc4, -, hS4, hE4⟩))
  have hE24 := hE3.trans hE4
  have hF4 := hF2.trans hE24
  have hS3 := (hS3.mono only_cle).ext hE4
  have hS4 := hS4.mono only_cle
  clear hpu hpa hE3 hE4
  refine wp_region_lit ?_
  iterate 1 (first | (refine pl_off (a' := ?_) rfl (by rfl) ?_ ?_; rotate_left 1; (· simp only [Act.put, zzA, zz0, zzS]; rfl)) | (refine pl_y (v := ?_) (a' := ?_) rfl (by rfl) ?_ ?_ ?_; rotate_left 2; (· go_simp; with_reducible rfl); (· simp only [Act.put, zzA, zz0, zzS]; rfl)))
  refine pl_y (v := ?_) (a' := ?_) rfl (by rfl) ?_ ?_ ?_
  rotate_left 2
  · (refine (run_op_load rfl ?_ ((l1 _ hE24))).trans ?_; (· rfl); (· with_reducible rfl))
  · simp only [Act.put, zzA, zz0, zzS]; rfl
  refine pl_call (args := ?_) Tryz.func14 (by kernel_rfl) rfl (by rfl) rfl rfl ?_ ?_
  rotate_left 1
  · go_simp; with_reducible rfl
  (with_reducible refine (hck _ hF4).mono ?_)
  rintro e w5 ⟨rfl, hE5⟩
  refine ⟨_, _, rfl, (by simp only [Act.put, zzA, zz0, zzS]; rfl), ?_⟩
  iterate 3 (first | (refine pl_off (a' := ?_) rfl (by rfl) ?_ ?_; rotate_left 1; (· simp only [Act.put, zzA, zz0, zzS]; rfl)) | (refine pl_y (v := ?_) (a' := ?_) rfl (by rfl) ?_ ?_ ?_; rotate_left 2; (· go_simp; with_reducible rfl); (· simp only [Act.put, zzA, zz0, zzS]; rfl)))
  refine pl_y (v := ?_) (a' := ?_) rfl (by rfl) ?_ ?_ ?_
  rotate_left 2
  · (refine (run_op_load rfl ?_ ((l2 _ (hE24.trans hE5)))).trans ?_; (· rfl); (· with_reducible rfl))
  · simp only [Act.put, zzA, zz0, zzS]; rfl
  refine pl_call (args := ?_) Tryz.func23 (by kernel_rfl) rfl (by rfl) rfl rfl ?_ ?_
  rotate_left 1
  · go_simp; with_reducible rfl
  (with_reducible refine (hcka _ (hF4.trans hE5)).mono ?_)
  rintro e w6 ⟨rfl, hE6⟩
  refine ⟨_, _, rfl, (by simp only [Act.put, zzA, zz0, zzS]; rfl), ?_⟩
  have hE46 := hE5.trans hE6
  have hF6 := hF4.trans hE46
  have hE26 := hE24.trans hE46
  have hS3 := hS3.ext hE46
  have hS4 := hS4.ext hE46
  clear hck hcka hE5 hE6 hE24 hE46 hF4 hF2 hE
  obtain ⟨⟨r1, v1⟩, hg1⟩ : ∃ p, getC (putB c) = p := ⟨_, rfl⟩
  obtain ⟨⟨r2, v2⟩, hg2⟩ : ∃ p, getA (putAB a) = p := ⟨_, rfl⟩
  obtain ⟨⟨r, v⟩, hgl⟩ : ∃ p, getC l = p := ⟨_, rfl⟩
  obtain ⟨⟨x, u⟩, hga⟩ : ∃ p, getA l = p := ⟨_, rfl⟩
  have hb3 : n3 ≤ 4294967296 := by omega
  have hb4 : n4 ≤ 4294967296 := by omega
  have hb0 : n ≤ 4294967296 := by omega
  have hb1 : l.length ≤ 4294967296 := by have := HL.out; omega
  have hg7 := cgetq_any w6 A3 n3 c3 _ (hOW _ hF6) hS3 hc3 hb3 r1 v1 hg1
  have hg8 := fun (w' : World) (e : Ext w6 w') => agetq_any w' A4 n4 c4 _ (hS4.ext e) hc4 hb4 r2 v2 hg2
  have hK1 : cv = 0 → r1 = c ∧ v1 = 0 := fun h => back1 hi.ints hg1 (HCV.out.trans h)
  have hK2 : av = 0 → r2 = a ∧ v2 = 0 := fun h => back2 hia.ints hg2 (HAV.out.trans h)
  have hN1 : cv ≠ 0 → decide (0 < n3) = false := fun h => by rw [← hn3, putB_none (by rw [HCV.out]; exact h)]; rfl
  have hN2 : av ≠ 0 → decide (0 < n4) = false := fun h => by rw [← hn4, putAB_none (by rw [HAV.out]; exact h)]; rfl
  clear hg1 hg2 hn3 hn4 hS3 hS4 hc3 hc4 hLc hLa hb3 hb4
  by_cases h0 : cv = 0
  · obtain ⟨e1, e2⟩ := hK1 h0
    subst h0 e1 e2
    have hsc := fun (w' : World) C1 h1 h2 => samecq_any w' r1 C1 C h1 h2 hf.len
    by_cases h1 : av = 0
    · obtain ⟨e1, e2⟩ := hK2 h1
      subst h1 e1 e2
      have hsa := fun (w' : World) C1 h1 h2 => sameaq_any w' r2 C1 D h1 h2 hfa.len
      clear hK1 hK2 hN1 hN2
      iterate 20 (first | (refine pl_off (a' := ?_) rfl (by rfl) ?_ ?_; rotate_left 1; (· simp only [Act.put, zzA, zz0, zzS]; rfl)) | (refine pl_y (v := ?_) (a' := ?_) rfl (by rfl) ?_ ?_ ?_; rotate_left 2; (· go_simp; with_reducible rfl); (· simp only [Act.put, zzA, zz0, zzS]; rfl)))
      refine wpList_nil ?_
      go_upto_region 8 with (first | (go_at_call 27; (with_reducible refine (hg7).mono ?_); rintro e w7 ⟨C7, rfl, o7, hE7⟩; obtain ⟨z1, z2⟩ := o7.row; obtain ⟨V7, hr, D7, hEV7⟩ := box_row w7 31 #[.int .i64 0, .string ⟨#[]⟩, .int .i64 0, .slice none 0 0, .int .u8 0, .int .u8 0, .int .u8 0, .int .u8 0, .int .u8 0, .int .u8 0, .int .u8 0, .int .u8 0, .int .u8 0, .int .u8 0, .int .u8 0, .int .u8 0, .int .u8 0, .int .u8 0, .int .u8 0, .int .u8 0, .int .u8 0, .int .u8 0, .int .u8 0, .int .u8 0, .int .u8 0, .int .u8 0, .int .u8 0, .int .u8 0, .int .u8 0, .int .u8 0, .int .u8 0, .int .u8 0, .int .u8 0, .int .u8 0, .int .u8 0, .int .u8 0, .string ⟨#[]⟩, .string ⟨#[]⟩, .int .i64 0, .slice none 0 0, .int .i64 0, .int .i64 0, .int .i64 0, .string ⟨#[]⟩, .bool false, .int .i64 0, .int .i64 0] C7 z1.symm (by rw [z1]; kernel_rfl) z2) | (refine wpList_store_by rfl rfl ?_ ?_ hr ?_; (· rfl); (· rfl)))
      have hF7 := hF6.trans (hE7.trans hEV7)
      have hz7 := o7.row.1
      have hg8 := hg8 _ (hE7.trans hEV7)
      clear hr z1 z2 hg7
      go_upto_region 9 with (first | (go_at_call 29; (with_reducible refine (hg8).mono ?_); rintro e w8 ⟨C8, rfl, o8, hE8⟩; obtain ⟨z1, z2⟩ := o8.only.row; obtain ⟨V8, hr, D8, hEV8⟩ := box_row w8 46 #[.int .i64 0, .int .i64 0, .slice none 0 0, .string ⟨#[]⟩, .int .i64 0, .slice none 0 0, .int .u8 0, .int .u8 0, .int .u8 0, .int .u8 0, .int .u8 0, .int .u8 0, .int .u8 0, .int .u8 0, .int .u8 0, .int .u8 0, .int .u8 0, .int .u8 0, .int .u8 0, .int .u8 0, .int .u8 0, .int .u8 0, .int .u8 0, .int .u8 0, .int .u8 0, .int .u8 0, .int .u8 0, .int .u8 0, .int .u8 0, .int .u8 0, .int .u8 0, .int .u8 0, .int .u8 0, .int .u8 0, .int .u8 0, .int .u8 0, .int .u8 0, .int .u8 0, .slice none 0 0] C8 z1.symm (by rw [z1]; kernel_rfl) z2) | (refine wpList_store_by rfl rfl ?_ ?_ hr ?_; (· rfl); (· rfl)))
      have hF8 := hF7.trans (hE8.trans hEV8)
      have hz8 := o8.only.row.1
      have X8 : Ext w2 V8 := hE26.trans ((hE7.trans hEV7).trans (hE8.trans hEV8))
      clear hr z1 z2 hg8
      have n7 : w7.heap.size < V7.heap.size := D7.lt
      have n8 : w8.heap.size < V8.heap.size := D8.lt
      have k7 := hE7.le
      have k8 := hE8.le
      have kv8 := hEV8.le
      have k0 := hF6.le
      have D7 := D7.ext (hE8.trans hEV8)
      have o7 := ((o7.only (Nat.le_refl _)).only (hEV7.trans (hE8.trans hEV8)) (Nat.le_refl _)).mono only_cle
      have o8 := (o8.only.only hEV8 (Nat.le_refl _)).mono only_cle
      have l7 := load_whole D7 31 _ Tryz.underlying31 rfl (by rw [hz7]; kernel_rfl)
      have l8 := fun (w' : World) (e : Ext V8 w') => load_whole (D8.ext e) 46 _ Tryz.underlying46 rfl (by rw [hz8]; kernel_rfl)
      clear hE7 hEV7 hE8 hEV8 hF6 hF7
      refine wp_region_lit ?_
      iterate 6 (first | (refine pl_off (a' := ?_) rfl (by rfl) ?_ ?_; rotate_left 1; (· simp only [Act.put, zzA, zz0, zzS]; rfl)) | (refine pl_y (v := ?_) (a' := ?_) rfl (by rfl) ?_ ?_ ?_; rotate_left 2; (· go_simp; with_reducible rfl); (· simp only [Act.put, zzA, zz0, zzS]; rfl)))
      refine pl_y (v := ?_) (a' := ?_) rfl (by rfl) ?_ ?_ ?_
      rotate_left 2
      · (refine (run_op_load rfl ?_ (l7)).trans ?_; (· rfl); (· with_reducible rfl))
      · simp only [Act.put, zzA, zz0, zzS]; rfl
      refine pl_y (v := ?_) (a' := ?_) rfl (by rfl) ?_ ?_ ?_
      rotate_left 2
      · (refine (run_op_load rfl ?_ ((l1 _ X8))).trans ?_; (· rfl); (· with_reducible rfl))
      · simp only [Act.put, zzA, zz0, zzS]; rfl
      refine pl_call (args := ?_) Tryz.func18 (by kernel_rfl) rfl (by rfl) rfl rfl ?_ ?_
      rotate_left 1
      · go_simp; with_reducible rfl
      (with_reducible refine (hsc _ _ o7 (hCW _ hF8)).mono ?_)
      rintro e w9 ⟨rfl, hE9⟩
      refine ⟨_, _, rfl, (by simp only [Act.put, zzA, zz0, zzS]; rfl), ?_⟩
      iterate 4 (first | (refine pl_off (a' := ?_) rfl (by rfl) ?_ ?_; rotate_left 1; (· simp only [Act.put, zzA, zz0, zzS]; rfl)) | (refine pl_y (v := ?_) (a' := ?_) rfl (by rfl) ?_ ?_ ?_; rotate_left 2; (· go_simp; with_reducible rfl); (· simp only [Act.put, zzA, zz0, zzS]; rfl)))
      iterate 6 (first | (refine pl_off (a' := ?_) rfl (by rfl) ?_ ?_; rotate_left 1; (· simp only [Act.put, zzA, zz0, zzS]; rfl)) | (refine pl_y (v := ?_) (a' := ?_) rfl (by rfl) ?_ ?_ ?_; rotate_left 2; (· go_simp; with_reducible rfl); (· simp only [Act.put, zzA, zz0, zzS]; rfl)))
      refine pl_y (v := ?_) (a' := ?_) rfl (by rfl) ?_ ?_ ?_
      rotate_left 2
      · (refine (run_op_load rfl ?_ ((l8 _ hE9))).trans ?_; (· rfl); (· with_reducible rfl))
      · simp only [Act.put, zzA, zz0, zzS]; rfl
      refine pl_y (v := ?_) (a' := ?_) rfl (by rfl) ?_ ?_ ?_
      rotate_left 2
      · (refine (run_op_load rfl ?_ ((l2 _ (X8.trans hE9)))).trans ?_; (· rfl); (· with_reducible rfl))
      · simp only [Act.put, zzA, zz0, zzS]; rfl
      refine pl_call (args := ?_) Tryz.func25 (by kernel_rfl) rfl (by rfl) rfl rfl ?_ ?_
      rotate_left 1
      · go_simp; with_reducible rfl
      (with_reducible refine (hsa _ _ (o8.ext hE9) (hDW _ (hF8.trans hE9))).mono ?_)
      rintro e w10 ⟨rfl, hE10⟩
      refine ⟨_, _, rfl, (by simp only [Act.put, zzA, zz0, zzS]; rfl), ?_⟩
      iterate 4 (first | (refine pl_off (a' := ?_) rfl (by rfl) ?_ ?_; rotate_left 1; (· simp only [Act.put, zzA, zz0, zzS]; rfl)) | (refine pl_y (v := ?_) (a' := ?_) rfl (by rfl) ?_ ?_ ?_; rotate_left 2; (· go_simp; with_reducible rfl); (· simp only [Act.put, zzA, zz0, zzS]; rfl)))
      refine wpList_nil ?_
      go_upto_region 11 with fail
      have hE910 := hE9.trans hE10
      have k9 := Ext.le hE910
      have hF10 := hF8.trans hE910
      have D7 := D7.ext hE910
      have D8 := D8.ext hE910
      clear l7 l8 o7 o8 hF8 X8
      go_upto_region 12 with (first | (go_at_call 27; (with_reducible refine (cgetq_any _ A n m l (hOW _ hF10) (hSW _ hF10) hc hb0 r v hgl).mono ?_); rintro e w11 ⟨C11, rfl, o11, hE11⟩; obtain ⟨z1, z2⟩ := o11.row; obtain ⟨w12, hr, D12, hX12⟩ := over_row (D7.ext hE11) (C := C11) (hz7.trans z1.symm) (by rw [z1]; kernel_rfl) z2) | (refine wpList_store_by rfl rfl ?_ ?_ hr ?_; (· rfl); (· rfl)))
      have k11 := hE11.le
      have k12 := hX12.size
      have hF12 : Ext w w12 := Exc.ext (Ext.trans hF10 hE11) hX12 (by omega)
      have o12 := (cmdAt_exc (o11.only (Nat.le_refl _)) hX12 (by omega) (.inr (by omega))).mono only_cle
      have D8 := hX12.blk (D8.ext hE11) (.inr (by omega))
      have l12 := load_whole D12 31 _ Tryz.underlying31 rfl (by rw [z1]; kernel_rfl)
      clear hr z2 hX12 hE11 o11 D7
      by_cases hv0 : v = 0
      · subst hv0
        have hp13 := putq_of (hOW _ hF12) o12 (c_some hgl)
        rw [HL.out] at hp13
        clear hgl
        go_upto_region 18 with (first | (refine wpList_load_w rfl rfl ?_ l12 ?_; (· rfl)) | (go_at_call 12; (with_reducible refine hp13.mono ?_); rintro e w13 ⟨A13, n13, c13, rfl, hn13, hc13, hS13, hE13⟩; subst hn13) | (go_at_call 16; (with_reducible refine (samebq_any _ l n A13 c13 hS13 hc13 hb1 A m (hSW _ (hF12.trans hE13)) hc).mono ?_); rintro e w14 ⟨rfl, hE14⟩))
        have k13 := hE13.le
        have k14 := hE14.le
        have D8 := D8.ext (hE13.trans hE14)
        have hF14 := (hF12.trans hE13).trans hE14
        clear l12 o12 hp13 hS13 D12
        go_upto_region 19 with (first | (go_at_call 29; (with_reducible refine (agetq_any _ A n m l (hSW _ hF14) hc hb0 x u hga).mono ?_); rintro e w19 ⟨C19, rfl, o19, hE19⟩; obtain ⟨z1, z2⟩ := o19.only.row; obtain ⟨w20, hr, D20, hX20⟩ := over_row ((D8).ext hE19) (C := C19) (hz8.trans z1.symm) (by rw [z1]; kernel_rfl) z2) | (refine wpList_store_by rfl rfl ?_ ?_ hr ?_; (· rfl); (· rfl)))
        have k19 := hE19.le
        have k20 := hX20.size
        have hF20 : Ext w w20 := Exc.ext (Ext.trans hF14 hE19) hX20 (by omega)
        have o20 := (ansAt_exc o19.only hX20 (by omega) (.inr (by omega))).mono only_cle
        have l20 := load_whole D20 46 _ Tryz.underlying46 rfl (by rw [z1]; kernel_rfl)
        clear hr z2 hX20 hE19 o19
        by_cases hu0 : u = 0
        · subst hu0
          have hp21 := aputq_of o20 (a_some hga)
          rw [HL.out] at hp21
          clear hga
          go_wp2_with (first | (refine wpList_load_w rfl rfl ?_ l20 ?_; (· rfl)) | (go_at_call 21; (with_reducible refine hp21.mono ?_); rintro e w21 ⟨A21, n21, c21, rfl, hn21, hc21, hS21, hE21⟩; subst hn21) | (go_at_call 16; (with_reducible refine (samebq_any _ l n A21 c21 hS21 hc21 hb1 A m (hSW _ (hF20.trans hE21)) hc).mono ?_); rintro e w22 ⟨rfl, hE22⟩) | (go_at_call 10; (with_reducible refine (hwo _ ((hF20.trans hE21).trans hE22)).mono ?_); rintro e w23 ⟨rfl, hE23⟩))
          go_ret
          exact ⟨rfl, ((hF20.trans hE21).trans hE22).trans hE23⟩
        · obtain rfl := a_none hga hu0
          have hu1 : (u != 0) = true := by simpa using hu0
          clear hga
          go_wp2_with (first | (refine wpList_load_w rfl rfl ?_ l20 ?_; (· rfl)) | (go_at_call 25; (with_reducible refine (sameza_any _ _ o20).mono ?_); rintro e w21 ⟨rfl, hE21⟩) | (go_at_call 10; (with_reducible refine (hwo _ (hF20.trans hE21)).mono ?_); rintro e w22 ⟨rfl, hE22⟩))
          go_ret
          exact ⟨rfl, (hF20.trans hE21).trans hE22⟩
      · obtain rfl := c_none hgl hv0
        have hv1 : (v == 0) = false := by simpa using hv0
        clear hgl
        go_upto_region 18 with (first | (refine wpList_load_w rfl rfl ?_ l12 ?_; (· rfl)) | (go_at_call 18; (with_reducible refine (samez_any _ _ o12).mono ?_); rintro e w13 ⟨rfl, hE13⟩))
        have k13 := hE13.le
        have D8 := D8.ext hE13
        have hF13 := hF12.trans hE13
        clear l12 o12 D12
        go_upto_region 19 with (first | (go_at_call 29; (with_reducible refine (agetq_any _ A n m l (hSW _ hF13) hc hb0 x u hga).mono ?_); rintro e w19 ⟨C19, rfl, o19, hE19⟩; obtain ⟨z1, z2⟩ := o19.only.row; obtain ⟨w20, hr, D20, hX20⟩ := over_row ((D8).ext hE19) (C := C19) (hz8.trans z1.symm) (by rw [z1]; kernel_rfl) z2) | (refine wpList_store_by rfl rfl ?_ ?_ hr ?_; (· rfl); (· rfl)))
        have k19 := hE19.le
        have k20 := hX20.size
        have hF20 : Ext w w20 := Exc.ext (Ext.trans hF13 hE19) hX20 (by omega)
        have o20 := (ansAt_exc o19.only hX20 (by omega) (.inr (by omega))).mono only_cle
        have l20 := load_whole D20 46 _ Tryz.underlying46 rfl (by rw [z1]; kernel_rfl)
        clear hr z2 hX20 hE19 o19
        by_cases hu0 : u = 0
        · subst hu0
          have hp21 := aputq_of o20 (a_some hga)
          rw [HL.out] at hp21
          clear hga
          go_wp2_with (first | (refine wpList_load_w rfl rfl ?_ l20 ?_; (· rfl)) | (go_at_call 21; (with_reducible refine hp21.mono ?_); rintro e w21 ⟨A21, n21, c21, rfl, hn21, hc21, hS21, hE21⟩; subst hn21) | (go_at_call 16; (with_reducible refine (samebq_any _ l n A21 c21 hS21 hc21 hb1 A m (hSW _ (hF20.trans hE21)) hc).mono ?_); rintro e w22 ⟨rfl, hE22⟩) | (go_at_call 10; (with_reducible refine (hwo _ ((hF20.trans hE21).trans hE22)).mono ?_); rintro e w23 ⟨rfl, hE23⟩))
          go_ret
          exact ⟨rfl, ((hF20.trans hE21).trans hE22).trans hE23⟩
        · obtain rfl := a_none hga hu0
          have hu1 : (u != 0) = true := by simpa using hu0
          clear hga
          go_wp2_with (first | (refine wpList_load_w rfl rfl ?_ l20 ?_; (· rfl)) | (go_at_call 25; (with_reducible refine (sameza_any _ _ o20).mono ?_); rintro e w21 ⟨rfl, hE21⟩) | (go_at_call 10; (with_reducible refine (hwo _ (hF20.trans hE21)).mono ?_); rintro e w22 ⟨rfl, hE22⟩))
          go_ret
          exact ⟨rfl, (hF20.trans hE21).trans hE22⟩
    · have hn4 := hN2 h1
      have hn4i : decide ((0 : Int) < (n4 : Int)) = false := dec_nat hn4
      have h1a : (av == 0) = false := by simpa using h1
      have h1b : (av != 0) = true := by simpa using h1
      clear hK1 hK2 hN1 hN2
      iterate 20 (first | (refine pl_off (a' := ?_) rfl (by rfl) ?_ ?_; rotate_left 1; (· simp only [Act.put, zzA, zz0, zzS]; rfl)) | (refine pl_y (v := ?_) (a' := ?_) rfl (by rfl) ?_ ?_ ?_; rotate_left 2; (· go_simp; with_reducible rfl); (· simp only [Act.put, zzA, zz0, zzS]; rfl)))
      refine wpList_nil ?_
      go_upto_region 8 with (first | (go_at_call 27; (with_reducible refine (hg7).mono ?_); rintro e w7 ⟨C7, rfl, o7, hE7⟩; obtain ⟨z1, z2⟩ := o7.row; obtain ⟨V7, hr, D7, hEV7⟩ := box_row w7 31 #[.int .i64 0, .string ⟨#[]⟩, .int .i64 0, .slice none 0 0, .int .u8 0, .int .u8 0, .int .u8 0, .int .u8 0, .int .u8 0, .int .u8 0, .int .u8 0, .int .u8 0, .int .u8 0, .int .u8 0, .int .u8 0, .int .u8 0, .int .u8 0, .int .u8 0, .int .u8 0, .int .u8 0, .int .u8 0, .int .u8 0, .int .u8 0, .int .u8 0, .int .u8 0, .int .u8 0, .int .u8 0, .int .u8 0, .int .u8 0, .int .u8 0, .int .u8 0, .int .u8 0, .int .u8 0, .int .u8 0, .int .u8 0, .int .u8 0, .string ⟨#[]⟩, .string ⟨#[]⟩, .int .i64 0, .slice none 0 0, .int .i64 0, .int .i64 0, .int .i64 0, .string ⟨#[]⟩, .bool false, .int .i64 0, .int .i64 0] C7 z1.symm (by rw [z1]; kernel_rfl) z2) | (refine wpList_store_by rfl rfl ?_ ?_ hr ?_; (· rfl); (· rfl)))
      have hF7 := hF6.trans (hE7.trans hEV7)
      have hz7 := o7.row.1
      have hg8 := hg8 _ (hE7.trans hEV7)
      clear hr z1 z2 hg7
      go_upto_region 9 with (first | (go_at_call 29; (with_reducible refine (hg8).mono ?_); rintro e w8 ⟨C8, rfl, o8, hE8⟩; obtain ⟨z1, z2⟩ := o8.only.row; obtain ⟨V8, hr, D8, hEV8⟩ := box_row w8 46 #[.int .i64 0, .int .i64 0, .slice none 0 0, .string ⟨#[]⟩, .int .i64 0, .slice none 0 0, .int .u8 0, .int .u8 0, .int .u8 0, .int .u8 0, .int .u8 0, .int .u8 0, .int .u8 0, .int .u8 0, .int .u8 0, .int .u8 0, .int .u8 0, .int .u8 0, .int .u8 0, .int .u8 0, .int .u8 0, .int .u8 0, .int .u8 0, .int .u8 0, .int .u8 0, .int .u8 0, .int .u8 0, .int .u8 0, .int .u8 0, .int .u8 0, .int .u8 0, .int .u8 0, .int .u8 0, .int .u8 0, .int .u8 0, .int .u8 0, .int .u8 0, .int .u8 0, .slice none 0 0] C8 z1.symm (by rw [z1]; kernel_rfl) z2) | (refine wpList_store_by rfl rfl ?_ ?_ hr ?_; (· rfl); (· rfl)))
      have hF8 := hF7.trans (hE8.trans hEV8)
      have hz8 := o8.only.row.1
      have X8 : Ext w2 V8 := hE26.trans ((hE7.trans hEV7).trans (hE8.trans hEV8))
      clear hr z1 z2 hg8
      have n7 : w7.heap.size < V7.heap.size := D7.lt
      have n8 : w8.heap.size < V8.heap.size := D8.lt
      have k7 := hE7.le
      have k8 := hE8.le
      have kv8 := hEV8.le
      have k0 := hF6.le
      have D7 := D7.ext (hE8.trans hEV8)
      have o7 := ((o7.only (Nat.le_refl _)).only (hEV7.trans (hE8.trans hEV8)) (Nat.le_refl _)).mono only_cle
      have o8 := (o8.only.only hEV8 (Nat.le_refl _)).mono only_cle
      have l7 := load_whole D7 31 _ Tryz.underlying31 rfl (by rw [hz7]; kernel_rfl)
      have l8 := fun (w' : World) (e : Ext V8 w') => load_whole (D8.ext e) 46 _ Tryz.underlying46 rfl (by rw [hz8]; kernel_rfl)
      clear hE7 hEV7 hE8 hEV8 hF6 hF7
      refine wp_region_lit ?_
      iterate 6 (first | (refine pl_off (a' := ?_) rfl (by rfl) ?_ ?_; rotate_left 1; (· simp only [Act.put, zzA, zz0, zzS]; rfl)) | (refine pl_y (v := ?_) (a' := ?_) rfl (by rfl) ?_ ?_ ?_; rotate_left 2; (· go_simp; with_reducible rfl); (· simp only [Act.put, zzA, zz0, zzS]; rfl)))
      refine pl_y (v := ?_) (a' := ?_) rfl (by rfl) ?_ ?_ ?_
      rotate_left 2
      · (refine (run_op_load rfl ?_ (l7)).trans ?_; (· rfl); (· with_reducible rfl))
      · simp only [Act.put, zzA, zz0, zzS]; rfl
      refine pl_y (v := ?_) (a' := ?_) rfl (by rfl) ?_ ?_ ?_
      rotate_left 2
      · (refine (run_op_load rfl ?_ ((l1 _ X8))).trans ?_; (· rfl); (· with_reducible rfl))
      · simp only [Act.put, zzA, zz0, zzS]; rfl
      refine pl_call (args := ?_) Tryz.func18 (by kernel_rfl) rfl (by rfl) rfl rfl ?_ ?_
      rotate_left 1
      · go_simp; with_reducible rfl
      (with_reducible refine (hsc _ _ o7 (hCW _ hF8)).mono ?_)
      rintro e w9 ⟨rfl, hE9⟩
      refine ⟨_, _, rfl, (by simp only [Act.put, zzA, zz0, zzS]; rfl), ?_⟩
      iterate 4 (first | (refine pl_off (a' := ?_) rfl (by rfl) ?_ ?_; rotate_left 1; (· simp only [Act.put, zzA, zz0, zzS]; rfl)) | (refine pl_y (v := ?_) (a' := ?_) rfl (by rfl) ?_ ?_ ?_; rotate_left 2; (· go_simp; with_reducible rfl); (· simp only [Act.put, zzA, zz0, zzS]; rfl)))
      iterate 2 (first | (refine pl_off (a' := ?_) rfl (by rfl) ?_ ?_; rotate_left 1; (· simp only [Act.put, zzA, zz0, zzS]; rfl)) | (refine pl_y (v := ?_) (a' := ?_) rfl (by rfl) ?_ ?_ ?_; rotate_left 2; (· go_simp; with_reducible rfl); (· simp only [Act.put, zzA, zz0, zzS]; rfl)))
      refine pl_deadP (r' := ?_) (a' := ?_) 11 [(90, .bool false), (91, undef), (92, undef), (93, undef), (94, undef), (95, undef), (96, undef), (97, undef), (98, undef), (99, .bool false), (100, .bool false)] ?_ (by kernel_rfl) ?_ ?_
      rotate_left 2
      · simp only [List.drop_succ_cons, List.drop_zero]; rfl
      · simp only [puts, List.foldl_cons, List.foldl_nil, Act.put, zzA, zz0, zzS]; rfl
      refine wpList_nil ?_
      go_upto_region 11 with fail
      have hE910 := hE9
      have k9 := Ext.le hE910
      have hF10 := hF8.trans hE910
      have D7 := D7.ext hE910
      have D8 := D8.ext hE910
      clear l7 l8 o7 o8 hF8 X8
      go_upto_region 12 with (first | (go_at_call 27; (with_reducible refine (cgetq_any _ A n m l (hOW _ hF10) (hSW _ hF10) hc hb0 r v hgl).mono ?_); rintro e w11 ⟨C11, rfl, o11, hE11⟩; obtain ⟨z1, z2⟩ := o11.row; obtain ⟨w12, hr, D12, hX12⟩ := over_row (D7.ext hE11) (C := C11) (hz7.trans z1.symm) (by rw [z1]; kernel_rfl) z2) | (refine wpList_store_by rfl rfl ?_ ?_ hr ?_; (· rfl); (· rfl)))
      have k11 := hE11.le
      have k12 := hX12.size
      have hF12 : Ext w w12 := Exc.ext (Ext.trans hF10 hE11) hX12 (by omega)
      have o12 := (cmdAt_exc (o11.only (Nat.le_refl _)) hX12 (by omega) (.inr (by omega))).mono only_cle
      have D8 := hX12.blk (D8.ext hE11) (.inr (by omega))
      have l12 := load_whole D12 31 _ Tryz.underlying31 rfl (by rw [z1]; kernel_rfl)
      clear hr z2 hX12 hE11 o11 D7
      by_cases hv0 : v = 0
      · subst hv0
        have hp13 := putq_of (hOW _ hF12) o12 (c_some hgl)
        rw [HL.out] at hp13
        clear hgl
        go_upto_region 18 with (first | (refine wpList_load_w rfl rfl ?_ l12 ?_; (· rfl)) | (go_at_call 12; (with_reducible refine hp13.mono ?_); rintro e w13 ⟨A13, n13, c13, rfl, hn13, hc13, hS13, hE13⟩; subst hn13) | (go_at_call 16; (with_reducible refine (samebq_any _ l n A13 c13 hS13 hc13 hb1 A m (hSW _ (hF12.trans hE13)) hc).mono ?_); rintro e w14 ⟨rfl, hE14⟩))
        have k13 := hE13.le
        have k14 := hE14.le
        have D8 := D8.ext (hE13.trans hE14)
        have hF14 := (hF12.trans hE13).trans hE14
        clear l12 o12 hp13 hS13 D12
        go_upto_region 19 with (first | (go_at_call 29; (with_reducible refine (agetq_any _ A n m l (hSW _ hF14) hc hb0 x u hga).mono ?_); rintro e w19 ⟨C19, rfl, o19, hE19⟩; obtain ⟨z1, z2⟩ := o19.only.row; obtain ⟨w20, hr, D20, hX20⟩ := over_row ((D8).ext hE19) (C := C19) (hz8.trans z1.symm) (by rw [z1]; kernel_rfl) z2) | (refine wpList_store_by rfl rfl ?_ ?_ hr ?_; (· rfl); (· rfl)))
        have k19 := hE19.le
        have k20 := hX20.size
        have hF20 : Ext w w20 := Exc.ext (Ext.trans hF14 hE19) hX20 (by omega)
        have o20 := (ansAt_exc o19.only hX20 (by omega) (.inr (by omega))).mono only_cle
        have l20 := load_whole D20 46 _ Tryz.underlying46 rfl (by rw [z1]; kernel_rfl)
        clear hr z2 hX20 hE19 o19
        by_cases hu0 : u = 0
        · subst hu0
          have hp21 := aputq_of o20 (a_some hga)
          rw [HL.out] at hp21
          clear hga
          go_wp2_with (first | (refine wpList_load_w rfl rfl ?_ l20 ?_; (· rfl)) | (go_at_call 21; (with_reducible refine hp21.mono ?_); rintro e w21 ⟨A21, n21, c21, rfl, hn21, hc21, hS21, hE21⟩; subst hn21) | (go_at_call 16; (with_reducible refine (samebq_any _ l n A21 c21 hS21 hc21 hb1 A m (hSW _ (hF20.trans hE21)) hc).mono ?_); rintro e w22 ⟨rfl, hE22⟩) | (go_at_call 10; (with_reducible refine (hwo _ ((hF20.trans hE21).trans hE22)).mono ?_); rintro e w23 ⟨rfl, hE23⟩))
          go_ret
          exact ⟨rfl, ((hF20.trans hE21).trans hE22).trans hE23⟩
        · obtain rfl := a_none hga hu0
          have hu1 : (u != 0) = true := by simpa using hu0
          clear hga
          go_wp2_with (first | (refine wpList_load_w rfl rfl ?_ l20 ?_; (· rfl)) | (go_at_call 25; (with_reducible refine (sameza_any _ _ o20).mono ?_); rintro e w21 ⟨rfl, hE21⟩) | (go_at_call 10; (with_reducible refine (hwo _ (hF20.trans hE21)).mono ?_); rintro e w22 ⟨rfl, hE22⟩))
          go_ret
          exact ⟨rfl, (hF20.trans hE21).trans hE22⟩
      · obtain rfl := c_none hgl hv0
        have hv1 : (v == 0) = false := by simpa using hv0
        clear hgl
        go_upto_region 18 with (first | (refine wpList_load_w rfl rfl ?_ l12 ?_; (· rfl)) | (go_at_call 18; (with_reducible refine (samez_any _ _ o12).mono ?_); rintro e w13 ⟨rfl, hE13⟩))
        have k13 := hE13.le
        have D8 := D8.ext hE13
        have hF13 := hF12.trans hE13
        clear l12 o12 D12
        go_upto_region 19 with (first | (go_at_call 29; (with_reducible refine (agetq_any _ A n m l (hSW _ hF13) hc hb0 x u hga).mono ?_); rintro e w19 ⟨C19, rfl, o19, hE19⟩; obtain ⟨z1, z2⟩ := o19.only.row; obtain ⟨w20, hr, D20, hX20⟩ := over_row ((D8).ext hE19) (C := C19) (hz8.trans z1.symm) (by rw [z1]; kernel_rfl) z2) | (refine wpList_store_by rfl rfl ?_ ?_ hr ?_; (· rfl); (· rfl)))
        have k19 := hE19.le
        have k20 := hX20.size
        have hF20 : Ext w w20 := Exc.ext (Ext.trans hF13 hE19) hX20 (by omega)
        have o20 := (ansAt_exc o19.only hX20 (by omega) (.inr (by omega))).mono only_cle
        have l20 := load_whole D20 46 _ Tryz.underlying46 rfl (by rw [z1]; kernel_rfl)
        clear hr z2 hX20 hE19 o19
        by_cases hu0 : u = 0
        · subst hu0
          have hp21 := aputq_of o20 (a_some hga)
          rw [HL.out] at hp21
          clear hga
          go_wp2_with (first | (refine wpList_load_w rfl rfl ?_ l20 ?_; (· rfl)) | (go_at_call 21; (with_reducible refine hp21.mono ?_); rintro e w21 ⟨A21, n21, c21, rfl, hn21, hc21, hS21, hE21⟩; subst hn21) | (go_at_call 16; (with_reducible refine (samebq_any _ l n A21 c21 hS21 hc21 hb1 A m (hSW _ (hF20.trans hE21)) hc).mono ?_); rintro e w22 ⟨rfl, hE22⟩) | (go_at_call 10; (with_reducible refine (hwo _ ((hF20.trans hE21).trans hE22)).mono ?_); rintro e w23 ⟨rfl, hE23⟩))
          go_ret
          exact ⟨rfl, ((hF20.trans hE21).trans hE22).trans hE23⟩
        · obtain rfl := a_none hga hu0
          have hu1 : (u != 0) = true := by simpa using hu0
          clear hga
          go_wp2_with (first | (refine wpList_load_w rfl rfl ?_ l20 ?_; (· rfl)) | (go_at_call 25; (with_reducible refine (sameza_any _ _ o20).mono ?_); rintro e w21 ⟨rfl, hE21⟩) | (go_at_call 10; (with_reducible refine (hwo _ (hF20.trans hE21)).mono ?_); rintro e w22 ⟨rfl, hE22⟩))
          go_ret
          exact ⟨rfl, (hF20.trans hE21).trans hE22⟩
  · have hn3 := hN1 h0
    have hn3i : decide ((0 : Int) < (n3 : Int)) = false := dec_nat hn3
    have h0a : (cv == 0) = false := by simpa using h0
    have h0b : (cv != 0) = true := by simpa using h0
    by_cases h1 : av = 0
    · obtain ⟨e1, e2⟩ := hK2 h1
      subst h1 e1 e2
      have hsa := fun (w' : World) C1 h1 h2 => sameaq_any w' r2 C1 D h1 h2 hfa.len
      clear hK1 hK2 hN1 hN2
      iterate 20 (first | (refine pl_off (a' := ?_) rfl (by rfl) ?_ ?_; rotate_left 1; (· simp only [Act.put, zzA, zz0, zzS]; rfl)) | (refine pl_y (v := ?_) (a' := ?_) rfl (by rfl) ?_ ?_ ?_; rotate_left 2; (· go_simp; with_reducible rfl); (· simp only [Act.put, zzA, zz0, zzS]; rfl)))
      refine wpList_nil ?_
      go_upto_region 8 with (first | (go_at_call 27; (with_reducible refine (hg7).mono ?_); rintro e w7 ⟨C7, rfl, o7, hE7⟩; obtain ⟨z1, z2⟩ := o7.row; obtain ⟨V7, hr, D7, hEV7⟩ := box_row w7 31 #[.int .i64 0, .string ⟨#[]⟩, .int .i64 0, .slice none 0 0, .int .u8 0, .int .u8 0, .int .u8 0, .int .u8 0, .int .u8 0, .int .u8 0, .int .u8 0, .int .u8 0, .int .u8 0, .int .u8 0, .int .u8 0, .int .u8 0, .int .u8 0, .int .u8 0, .int .u8 0, .int .u8 0, .int .u8 0, .int .u8 0, .int .u8 0, .int .u8 0, .int .u8 0, .int .u8 0, .int .u8 0, .int .u8 0, .int .u8 0, .int .u8 0, .int .u8 0, .int .u8 0, .int .u8 0, .int .u8 0, .int .u8 0, .int .u8 0, .string ⟨#[]⟩, .string ⟨#[]⟩, .int .i64 0, .slice none 0 0, .int .i64 0, .int .i64 0, .int .i64 0, .string ⟨#[]⟩, .bool false, .int .i64 0, .int .i64 0] C7 z1.symm (by rw [z1]; kernel_rfl) z2) | (refine wpList_store_by rfl rfl ?_ ?_ hr ?_; (· rfl); (· rfl)))
      have hF7 := hF6.trans (hE7.trans hEV7)
      have hz7 := o7.row.1
      have hg8 := hg8 _ (hE7.trans hEV7)
      clear hr z1 z2 hg7
      go_upto_region 9 with (first | (go_at_call 29; (with_reducible refine (hg8).mono ?_); rintro e w8 ⟨C8, rfl, o8, hE8⟩; obtain ⟨z1, z2⟩ := o8.only.row; obtain ⟨V8, hr, D8, hEV8⟩ := box_row w8 46 #[.int .i64 0, .int .i64 0, .slice none 0 0, .string ⟨#[]⟩, .int .i64 0, .slice none 0 0, .int .u8 0, .int .u8 0, .int .u8 0, .int .u8 0, .int .u8 0, .int .u8 0, .int .u8 0, .int .u8 0, .int .u8 0, .int .u8 0, .int .u8 0, .int .u8 0, .int .u8 0, .int .u8 0, .int .u8 0, .int .u8 0, .int .u8 0, .int .u8 0, .int .u8 0, .int .u8 0, .int .u8 0, .int .u8 0, .int .u8 0, .int .u8 0, .int .u8 0, .int .u8 0, .int .u8 0, .int .u8 0, .int .u8 0, .int .u8 0, .int .u8 0, .int .u8 0, .slice none 0 0] C8 z1.symm (by rw [z1]; kernel_rfl) z2) | (refine wpList_store_by rfl rfl ?_ ?_ hr ?_; (· rfl); (· rfl)))
      have hF8 := hF7.trans (hE8.trans hEV8)
      have hz8 := o8.only.row.1
      have X8 : Ext w2 V8 := hE26.trans ((hE7.trans hEV7).trans (hE8.trans hEV8))
      clear hr z1 z2 hg8
      have n7 : w7.heap.size < V7.heap.size := D7.lt
      have n8 : w8.heap.size < V8.heap.size := D8.lt
      have k7 := hE7.le
      have k8 := hE8.le
      have kv8 := hEV8.le
      have k0 := hF6.le
      have D7 := D7.ext (hE8.trans hEV8)
      have o7 := ((o7.only (Nat.le_refl _)).only (hEV7.trans (hE8.trans hEV8)) (Nat.le_refl _)).mono only_cle
      have o8 := (o8.only.only hEV8 (Nat.le_refl _)).mono only_cle
      have l7 := load_whole D7 31 _ Tryz.underlying31 rfl (by rw [hz7]; kernel_rfl)
      have l8 := fun (w' : World) (e : Ext V8 w') => load_whole (D8.ext e) 46 _ Tryz.underlying46 rfl (by rw [hz8]; kernel_rfl)
      clear hE7 hEV7 hE8 hEV8 hF6 hF7
      refine wp_region_lit ?_
      iterate 2 (first | (refine pl_off (a' := ?_) rfl (by rfl) ?_ ?_; rotate_left 1; (· simp only [Act.put, zzA, zz0, zzS]; rfl)) | (refine pl_y (v := ?_) (a' := ?_) rfl (by rfl) ?_ ?_ ?_; rotate_left 2; (· go_simp; with_reducible rfl); (· simp only [Act.put, zzA, zz0, zzS]; rfl)))
      refine pl_deadP (r' := ?_) (a' := ?_) 11 [(77, .bool false), (78, undef), (79, undef), (80, undef), (81, undef), (82, undef), (83, undef), (84, undef), (85, undef), (86, .bool false), (87, .bool false)] ?_ (by kernel_rfl) ?_ ?_
      rotate_left 2
      · simp only [List.drop_succ_cons, List.drop_zero]; rfl
      · simp only [puts, List.foldl_cons, List.foldl_nil, Act.put, zzA, zz0, zzS]; rfl
      have hE9 := Ext.refl V8
      iterate 6 (first | (refine pl_off (a' := ?_) rfl (by rfl) ?_ ?_; rotate_left 1; (· simp only [Act.put, zzA, zz0, zzS]; rfl)) | (refine pl_y (v := ?_) (a' := ?_) rfl (by rfl) ?_ ?_ ?_; rotate_left 2; (· go_simp; with_reducible rfl); (· simp only [Act.put, zzA, zz0, zzS]; rfl)))
      refine pl_y (v := ?_) (a' := ?_) rfl (by rfl) ?_ ?_ ?_
      rotate_left 2
      · (refine (run_op_load rfl ?_ ((l8 _ hE9))).trans ?_; (· rfl); (· with_reducible rfl))
      · simp only [Act.put, zzA, zz0, zzS]; rfl
      refine pl_y (v := ?_) (a' := ?_) rfl (by rfl) ?_ ?_ ?_
      rotate_left 2
      · (refine (run_op_load rfl ?_ ((l2 _ (X8.trans hE9)))).trans ?_; (· rfl); (· with_reducible rfl))
      · simp only [Act.put, zzA, zz0, zzS]; rfl
      refine pl_call (args := ?_) Tryz.func25 (by kernel_rfl) rfl (by rfl) rfl rfl ?_ ?_
      rotate_left 1
      · go_simp; with_reducible rfl
      (with_reducible refine (hsa _ _ (o8.ext hE9) (hDW _ (hF8.trans hE9))).mono ?_)
      rintro e w10 ⟨rfl, hE10⟩
      refine ⟨_, _, rfl, (by simp only [Act.put, zzA, zz0, zzS]; rfl), ?_⟩
      iterate 4 (first | (refine pl_off (a' := ?_) rfl (by rfl) ?_ ?_; rotate_left 1; (· simp only [Act.put, zzA, zz0, zzS]; rfl)) | (refine pl_y (v := ?_) (a' := ?_) rfl (by rfl) ?_ ?_ ?_; rotate_left 2; (· go_simp; with_reducible rfl); (· simp only [Act.put, zzA, zz0, zzS]; rfl)))
      refine wpList_nil ?_
      go_upto_region 11 with fail
      have hE910 := hE10
      have k9 := Ext.le hE910
      have hF10 := hF8.trans hE910
      have D7 := D7.ext hE910
      have D8 := D8.ext hE910
      clear l7 l8 o7 o8 hF8 X8
      go_upto_region 12 with (first | (go_at_call 27; (with_reducible refine (cgetq_any _ A n m l (hOW _ hF10) (hSW _ hF10) hc hb0 r v hgl).mono ?_); rintro e w11 ⟨C11, rfl, o11, hE11⟩; obtain ⟨z1, z2⟩ := o11.row; obtain ⟨w12, hr, D12, hX12⟩ := over_row (D7.ext hE11) (C := C11) (hz7.trans z1.symm) (by rw [z1]; kernel_rfl) z2) | (refine wpList_store_by rfl rfl ?_ ?_ hr ?_; (· rfl); (· rfl)))
      have k11 := hE11.le
      have k12 := hX12.size
      have hF12 : Ext w w12 := Exc.ext (Ext.trans hF10 hE11) hX12 (by omega)
      have o12 := (cmdAt_exc (o11.only (Nat.le_refl _)) hX12 (by omega) (.inr (by omega))).mono only_cle
      have D8 := hX12.blk (D8.ext hE11) (.inr (by omega))
      have l12 := load_whole D12 31 _ Tryz.underlying31 rfl (by rw [z1]; kernel_rfl)
      clear hr z2 hX12 hE11 o11 D7
      by_cases hv0 : v = 0
      · subst hv0
        have hp13 := putq_of (hOW _ hF12) o12 (c_some hgl)
        rw [HL.out] at hp13
        clear hgl
        go_upto_region 18 with (first | (refine wpList_load_w rfl rfl ?_ l12 ?_; (· rfl)) | (go_at_call 12; (with_reducible refine hp13.mono ?_); rintro e w13 ⟨A13, n13, c13, rfl, hn13, hc13, hS13, hE13⟩; subst hn13) | (go_at_call 16; (with_reducible refine (samebq_any _ l n A13 c13 hS13 hc13 hb1 A m (hSW _ (hF12.trans hE13)) hc).mono ?_); rintro e w14 ⟨rfl, hE14⟩))
        have k13 := hE13.le
        have k14 := hE14.le
        have D8 := D8.ext (hE13.trans hE14)
        have hF14 := (hF12.trans hE13).trans hE14
        clear l12 o12 hp13 hS13 D12
        go_upto_region 19 with (first | (go_at_call 29; (with_reducible refine (agetq_any _ A n m l (hSW _ hF14) hc hb0 x u hga).mono ?_); rintro e w19 ⟨C19, rfl, o19, hE19⟩; obtain ⟨z1, z2⟩ := o19.only.row; obtain ⟨w20, hr, D20, hX20⟩ := over_row ((D8).ext hE19) (C := C19) (hz8.trans z1.symm) (by rw [z1]; kernel_rfl) z2) | (refine wpList_store_by rfl rfl ?_ ?_ hr ?_; (· rfl); (· rfl)))
        have k19 := hE19.le
        have k20 := hX20.size
        have hF20 : Ext w w20 := Exc.ext (Ext.trans hF14 hE19) hX20 (by omega)
        have o20 := (ansAt_exc o19.only hX20 (by omega) (.inr (by omega))).mono only_cle
        have l20 := load_whole D20 46 _ Tryz.underlying46 rfl (by rw [z1]; kernel_rfl)
        clear hr z2 hX20 hE19 o19
        by_cases hu0 : u = 0
        · subst hu0
          have hp21 := aputq_of o20 (a_some hga)
          rw [HL.out] at hp21
          clear hga
          go_wp2_with (first | (refine wpList_load_w rfl rfl ?_ l20 ?_; (· rfl)) | (go_at_call 21; (with_reducible refine hp21.mono ?_); rintro e w21 ⟨A21, n21, c21, rfl, hn21, hc21, hS21, hE21⟩; subst hn21) | (go_at_call 16; (with_reducible refine (samebq_any _ l n A21 c21 hS21 hc21 hb1 A m (hSW _ (hF20.trans hE21)) hc).mono ?_); rintro e w22 ⟨rfl, hE22⟩) | (go_at_call 10; (with_reducible refine (hwo _ ((hF20.trans hE21).trans hE22)).mono ?_); rintro e w23 ⟨rfl, hE23⟩))
          go_ret
          exact ⟨rfl, ((hF20.trans hE21).trans hE22).trans hE23⟩
        · obtain rfl := a_none hga hu0
          have hu1 : (u != 0) = true := by simpa using hu0
          clear hga
          go_wp2_with (first | (refine wpList_load_w rfl rfl ?_ l20 ?_; (· rfl)) | (go_at_call 25; (with_reducible refine (sameza_any _ _ o20).mono ?_); rintro e w21 ⟨rfl, hE21⟩) | (go_at_call 10; (with_reducible refine (hwo _ (hF20.trans hE21)).mono ?_); rintro e w22 ⟨rfl, hE22⟩))
          go_ret
          exact ⟨rfl, (hF20.trans hE21).trans hE22⟩
      · obtain rfl := c_none hgl hv0
        have hv1 : (v == 0) = false := by simpa using hv0
        clear hgl
        go_upto_region 18 with (first | (refine wpList_load_w rfl rfl ?_ l12 ?_; (· rfl)) | (go_at_call 18; (with_reducible refine (samez_any _ _ o12).mono ?_); rintro e w13 ⟨rfl, hE13⟩))
        have k13 := hE13.le
        have D8 := D8.ext hE13
        have hF13 := hF12.trans hE13
        clear l12 o12 D12
        go_upto_region 19 with (first | (go_at_call 29; (with_reducible refine (agetq_any _ A n m l (hSW _ hF13) hc hb0 x u hga).mono ?_); rintro e w19 ⟨C19, rfl, o19, hE19⟩; obtain ⟨z1, z2⟩ := o19.only.row; obtain ⟨w20, hr, D20, hX20⟩ := over_row ((D8).ext hE19) (C := C19) (hz8.trans z1.symm) (by rw [z1]; kernel_rfl) z2) | (refine wpList_store_by rfl rfl ?_ ?_ hr ?_; (· rfl); (· rfl)))
        have k19 := hE19.le
        have k20 := hX20.size
        have hF20 : Ext w w20 := Exc.ext (Ext.trans hF13 hE19) hX20 (by omega)
        have o20 := (ansAt_exc o19.only hX20 (by omega) (.inr (by omega))).mono only_cle
        have l20 := load_whole D20 46 _ Tryz.underlying46 rfl (by rw [z1]; kernel_rfl)
        clear hr z2 hX20 hE19 o19
        by_cases hu0 : u = 0
        · subst hu0
          have hp21 := aputq_of o20 (a_some hga)
          rw [HL.out] at hp21
          clear hga
          go_wp2_with (first | (refine wpList_load_w rfl rfl ?_ l20 ?_; (· rfl)) | (go_at_call 21; (with_reducible refine hp21.mono ?_); rintro e w21 ⟨A21, n21, c21, rfl, hn21, hc21, hS21, hE21⟩; subst hn21) | (go_at_call 16; (with_reducible refine (samebq_any _ l n A21 c21 hS21 hc21 hb1 A m (hSW _ (hF20.trans hE21)) hc).mono ?_); rintro e w22 ⟨rfl, hE22⟩) | (go_at_call 10; (with_reducible refine (hwo _ ((hF20.trans hE21).trans hE22)).mono ?_); rintro e w23 ⟨rfl, hE23⟩))
          go_ret
          exact ⟨rfl, ((hF20.trans hE21).trans hE22).trans hE23⟩
        · obtain rfl := a_none hga hu0
          have hu1 : (u != 0) = true := by simpa using hu0
          clear hga
          go_wp2_with (first | (refine wpList_load_w rfl rfl ?_ l20 ?_; (· rfl)) | (go_at_call 25; (with_reducible refine (sameza_any _ _ o20).mono ?_); rintro e w21 ⟨rfl, hE21⟩) | (go_at_call 10; (with_reducible refine (hwo _ (hF20.trans hE21)).mono ?_); rintro e w22 ⟨rfl, hE22⟩))
          go_ret
          exact ⟨rfl, (hF20.trans hE21).trans hE22⟩
    · have hn4 := hN2 h1
      have hn4i : decide ((0 : Int) < (n4 : Int)) = false := dec_nat hn4
      have h1a : (av == 0) = false := by simpa using h1
      have h1b : (av != 0) = true := by simpa using h1
      clear hK1 hK2 hN1 hN2
      iterate 20 (first | (refine pl_off (a' := ?_) rfl (by rfl) ?_ ?_; rotate_left 1; (· simp only [Act.put, zzA, zz0, zzS]; rfl)) | (refine pl_y (v := ?_) (a' := ?_) rfl (by rfl) ?_ ?_ ?_; rotate_left 2; (· go_simp; with_reducible rfl); (· simp only [Act.put, zzA, zz0, zzS]; rfl)))
      refine wpList_nil ?_
      go_upto_region 8 with (first | (go_at_call 27; (with_reducible refine (hg7).mono ?_); rintro e w7 ⟨C7, rfl, o7, hE7⟩; obtain ⟨z1, z2⟩ := o7.row; obtain ⟨V7, hr, D7, hEV7⟩ := box_row w7 31 #[.int .i64 0, .string ⟨#[]⟩, .int .i64 0, .slice none 0 0, .int .u8 0, .int .u8 0, .int .u8 0, .int .u8 0, .int .u8 0, .int .u8 0, .int .u8 0, .int .u8 0, .int .u8 0, .int .u8 0, .int .u8 0, .int .u8 0, .int .u8 0, .int .u8 0, .int .u8 0, .int .u8 0, .int .u8 0, .int .u8 0, .int .u8 0, .int .u8 0, .int .u8 0, .int .u8 0, .int .u8 0, .int .u8 0, .int .u8 0, .int .u8 0, .int .u8 0, .int .u8 0, .int .u8 0, .int .u8 0, .int .u8 0, .int .u8 0, .string ⟨#[]⟩, .string ⟨#[]⟩, .int .i64 0, .slice none 0 0, .int .i64 0, .int .i64 0, .int .i64 0, .string ⟨#[]⟩, .bool false, .int .i64 0, .int .i64 0] C7 z1.symm (by rw [z1]; kernel_rfl) z2) | (refine wpList_store_by rfl rfl ?_ ?_ hr ?_; (· rfl); (· rfl)))
      have hF7 := hF6.trans (hE7.trans hEV7)
      have hz7 := o7.row.1
      have hg8 := hg8 _ (hE7.trans hEV7)
      clear hr z1 z2 hg7
      go_upto_region 9 with (first | (go_at_call 29; (with_reducible refine (hg8).mono ?_); rintro e w8 ⟨C8, rfl, o8, hE8⟩; obtain ⟨z1, z2⟩ := o8.only.row; obtain ⟨V8, hr, D8, hEV8⟩ := box_row w8 46 #[.int .i64 0, .int .i64 0, .slice none 0 0, .string ⟨#[]⟩, .int .i64 0, .slice none 0 0, .int .u8 0, .int .u8 0, .int .u8 0, .int .u8 0, .int .u8 0, .int .u8 0, .int .u8 0, .int .u8 0, .int .u8 0, .int .u8 0, .int .u8 0, .int .u8 0, .int .u8 0, .int .u8 0, .int .u8 0, .int .u8 0, .int .u8 0, .int .u8 0, .int .u8 0, .int .u8 0, .int .u8 0, .int .u8 0, .int .u8 0, .int .u8 0, .int .u8 0, .int .u8 0, .int .u8 0, .int .u8 0, .int .u8 0, .int .u8 0, .int .u8 0, .int .u8 0, .slice none 0 0] C8 z1.symm (by rw [z1]; kernel_rfl) z2) | (refine wpList_store_by rfl rfl ?_ ?_ hr ?_; (· rfl); (· rfl)))
      have hF8 := hF7.trans (hE8.trans hEV8)
      have hz8 := o8.only.row.1
      have X8 : Ext w2 V8 := hE26.trans ((hE7.trans hEV7).trans (hE8.trans hEV8))
      clear hr z1 z2 hg8
      have n7 : w7.heap.size < V7.heap.size := D7.lt
      have n8 : w8.heap.size < V8.heap.size := D8.lt
      have k7 := hE7.le
      have k8 := hE8.le
      have kv8 := hEV8.le
      have k0 := hF6.le
      have D7 := D7.ext (hE8.trans hEV8)
      have o7 := ((o7.only (Nat.le_refl _)).only (hEV7.trans (hE8.trans hEV8)) (Nat.le_refl _)).mono only_cle
      have o8 := (o8.only.only hEV8 (Nat.le_refl _)).mono only_cle
      have l7 := load_whole D7 31 _ Tryz.underlying31 rfl (by rw [hz7]; kernel_rfl)
      have l8 := fun (w' : World) (e : Ext V8 w') => load_whole (D8.ext e) 46 _ Tryz.underlying46 rfl (by rw [hz8]; kernel_rfl)
      clear hE7 hEV7 hE8 hEV8 hF6 hF7
      refine wp_region_lit ?_
      iterate 2 (first | (refine pl_off (a' := ?_) rfl (by rfl) ?_ ?_; rotate_left 1; (· simp only [Act.put, zzA, zz0, zzS]; rfl)) | (refine pl_y (v := ?_) (a' := ?_) rfl (by rfl) ?_ ?_ ?_; rotate_left 2; (· go_simp; with_reducible rfl); (· simp only [Act.put, zzA, zz0, zzS]; rfl)))
      refine pl_deadP (r' := ?_) (a' := ?_) 11 [(77, .bool false), (78, undef), (79, undef), (80, undef), (81, undef), (82, undef), (83, undef), (84, undef), (85, undef), (86, .bool false), (87, .bool false)] ?_ (by kernel_rfl) ?_ ?_
      rotate_left 2
      · simp only [List.drop_succ_cons, List.drop_zero]; rfl
      · simp only [puts, List.foldl_cons, List.foldl_nil, Act.put, zzA, zz0, zzS]; rfl
      iterate 2 (first | (refine pl_off (a' := ?_) rfl (by rfl) ?_ ?_; rotate_left 1; (· simp only [Act.put, zzA, zz0, zzS]; rfl)) | (refine pl_y (v := ?_) (a' := ?_) rfl (by rfl) ?_ ?_ ?_; rotate_left 2; (· go_simp; with_reducible rfl); (· simp only [Act.put, zzA, zz0, zzS]; rfl)))
      refine pl_deadP (r' := ?_) (a' := ?_) 11 [(90, .bool false), (91, undef), (92, undef), (93, undef), (94, undef), (95, undef), (96, undef), (97, undef), (98, undef), (99, .bool false), (100, .bool false)] ?_ (by kernel_rfl) ?_ ?_
      rotate_left 2
      · simp only [List.drop_succ_cons, List.drop_zero]; rfl
      · simp only [puts, List.foldl_cons, List.foldl_nil, Act.put, zzA, zz0, zzS]; rfl
      refine wpList_nil ?_
      go_upto_region 11 with fail
      have hE910 := Ext.refl V8
      have k9 := Ext.le hE910
      have hF10 := hF8.trans hE910
      have D7 := D7.ext hE910
      have D8 := D8.ext hE910
      clear l7 l8 o7 o8 hF8 X8
      go_upto_region 12 with (first | (go_at_call 27; (with_reducible refine (cgetq_any _ A n m l (hOW _ hF10) (hSW _ hF10) hc hb0 r v hgl).mono ?_); rintro e w11 ⟨C11, rfl, o11, hE11⟩; obtain ⟨z1, z2⟩ := o11.row; obtain ⟨w12, hr, D12, hX12⟩ := over_row (D7.ext hE11) (C := C11) (hz7.trans z1.symm) (by rw [z1]; kernel_rfl) z2) | (refine wpList_store_by rfl rfl ?_ ?_ hr ?_; (· rfl); (· rfl)))
      have k11 := hE11.le
      have k12 := hX12.size
      have hF12 : Ext w w12 := Exc.ext (Ext.trans hF10 hE11) hX12 (by omega)
      have o12 := (cmdAt_exc (o11.only (Nat.le_refl _)) hX12 (by omega) (.inr (by omega))).mono only_cle
      have D8 := hX12.blk (D8.ext hE11) (.inr (by omega))
      have l12 := load_whole D12 31 _ Tryz.underlying31 rfl (by rw [z1]; kernel_rfl)
      clear hr z2 hX12 hE11 o11 D7
      by_cases hv0 : v = 0
      · subst hv0
        have hp13 := putq_of (hOW _ hF12) o12 (c_some hgl)
        rw [HL.out] at hp13
        clear hgl
        go_upto_region 18 with (first | (refine wpList_load_w rfl rfl ?_ l12 ?_; (· rfl)) | (go_at_call 12; (with_reducible refine hp13.mono ?_); rintro e w13 ⟨A13, n13, c13, rfl, hn13, hc13, hS13, hE13⟩; subst hn13) | (go_at_call 16; (with_reducible refine (samebq_any _ l n A13 c13 hS13 hc13 hb1 A m (hSW _ (hF12.trans hE13)) hc).mono ?_); rintro e w14 ⟨rfl, hE14⟩))
        have k13 := hE13.le
        have k14 := hE14.le
        have D8 := D8.ext (hE13.trans hE14)
        have hF14 := (hF12.trans hE13).trans hE14
        clear l12 o12 hp13 hS13 D12
        go_upto_region 19 with (first | (go_at_call 29; (with_reducible refine (agetq_any _ A n m l (hSW _ hF14) hc hb0 x u hga).mono ?_); rintro e w19 ⟨C19, rfl, o19, hE19⟩; obtain ⟨z1, z2⟩ := o19.only.row; obtain ⟨w20, hr, D20, hX20⟩ := over_row ((D8).ext hE19) (C := C19) (hz8.trans z1.symm) (by rw [z1]; kernel_rfl) z2) | (refine wpList_store_by rfl rfl ?_ ?_ hr ?_; (· rfl); (· rfl)))
        have k19 := hE19.le
        have k20 := hX20.size
        have hF20 : Ext w w20 := Exc.ext (Ext.trans hF14 hE19) hX20 (by omega)
        have o20 := (ansAt_exc o19.only hX20 (by omega) (.inr (by omega))).mono only_cle
        have l20 := load_whole D20 46 _ Tryz.underlying46 rfl (by rw [z1]; kernel_rfl)
        clear hr z2 hX20 hE19 o19
        by_cases hu0 : u = 0
        · subst hu0
          have hp21 := aputq_of o20 (a_some hga)
          rw [HL.out] at hp21
          clear hga
          go_wp2_with (first | (refine wpList_load_w rfl rfl ?_ l20 ?_; (· rfl)) | (go_at_call 21; (with_reducible refine hp21.mono ?_); rintro e w21 ⟨A21, n21, c21, rfl, hn21, hc21, hS21, hE21⟩; subst hn21) | (go_at_call 16; (with_reducible refine (samebq_any _ l n A21 c21 hS21 hc21 hb1 A m (hSW _ (hF20.trans hE21)) hc).mono ?_); rintro e w22 ⟨rfl, hE22⟩) | (go_at_call 10; (with_reducible refine (hwo _ ((hF20.trans hE21).trans hE22)).mono ?_); rintro e w23 ⟨rfl, hE23⟩))
          go_ret
          exact ⟨rfl, ((hF20.trans hE21).trans hE22).trans hE23⟩
        · obtain rfl := a_none hga hu0
          have hu1 : (u != 0) = true := by simpa using hu0
          clear hga
          go_wp2_with (first | (refine wpList_load_w rfl rfl ?_ l20 ?_; (· rfl)) | (go_at_call 25; (with_reducible refine (sameza_any _ _ o20).mono ?_); rintro e w21 ⟨rfl, hE21⟩) | (go_at_call 10; (with_reducible refine (hwo _ (hF20.trans hE21)).mono ?_); rintro e w22 ⟨rfl, hE22⟩))
          go_ret
          exact ⟨rfl, (hF20.trans hE21).trans hE22⟩
      · obtain rfl := c_none hgl hv0
        have hv1 : (v == 0) = false := by simpa using hv0
        clear hgl
        go_upto_region 18 with (first | (refine wpList_load_w rfl rfl ?_ l12 ?_; (· rfl)) | (go_at_call 18; (with_reducible refine (samez_any _ _ o12).mono ?_); rintro e w13 ⟨rfl, hE13⟩))
        have k13 := hE13.le
        have D8 := D8.ext hE13
        have hF13 := hF12.trans hE13
        clear l12 o12 D12
        go_upto_region 19 with (first | (go_at_call 29; (with_reducible refine (agetq_any _ A n m l (hSW _ hF13) hc hb0 x u hga).mono ?_); rintro e w19 ⟨C19, rfl, o19, hE19⟩; obtain ⟨z1, z2⟩ := o19.only.row; obtain ⟨w20, hr, D20, hX20⟩ := over_row ((D8).ext hE19) (C := C19) (hz8.trans z1.symm) (by rw [z1]; kernel_rfl) z2) | (refine wpList_store_by rfl rfl ?_ ?_ hr ?_; (· rfl); (· rfl)))
        have k19 := hE19.le
        have k20 := hX20.size
        have hF20 : Ext w w20 := Exc.ext (Ext.trans hF13 hE19) hX20 (by omega)
        have o20 := (ansAt_exc o19.only hX20 (by omega) (.inr (by omega))).mono only_cle
        have l20 := load_whole D20 46 _ Tryz.underlying46 rfl (by rw [z1]; kernel_rfl)
        clear hr z2 hX20 hE19 o19
        by_cases hu0 : u = 0
        · subst hu0
          have hp21 := aputq_of o20 (a_some hga)
          rw [HL.out] at hp21
          clear hga
          go_wp2_with (first | (refine wpList_load_w rfl rfl ?_ l20 ?_; (· rfl)) | (go_at_call 21; (with_reducible refine hp21.mono ?_); rintro e w21 ⟨A21, n21, c21, rfl, hn21, hc21, hS21, hE21⟩; subst hn21) | (go_at_call 16; (with_reducible refine (samebq_any _ l n A21 c21 hS21 hc21 hb1 A m (hSW _ (hF20.trans hE21)) hc).mono ?_); rintro e w22 ⟨rfl, hE22⟩) | (go_at_call 10; (with_reducible refine (hwo _ ((hF20.trans hE21).trans hE22)).mono ?_); rintro e w23 ⟨rfl, hE23⟩))
          go_ret
          exact ⟨rfl, ((hF20.trans hE21).trans hE22).trans hE23⟩
        · obtain rfl := a_none hga hu0
          have hu1 : (u != 0) = true := by simpa using hu0
          clear hga
          go_wp2_with (first | (refine wpList_load_w rfl rfl ?_ l20 ?_; (· rfl)) | (go_at_call 25; (with_reducible refine (sameza_any _ _ o20).mono ?_); rintro e w21 ⟨rfl, hE21⟩) | (go_at_call 10; (with_reducible refine (hwo _ (hF20.trans hE21)).mono ?_); rintro e w22 ⟨rfl, hE22⟩))
          go_ret
          exact ⟨rfl, (hF20.trans hE21).trans hE22⟩
end Go.Proofs.YtgfhbachgniipaaGreatDoor
