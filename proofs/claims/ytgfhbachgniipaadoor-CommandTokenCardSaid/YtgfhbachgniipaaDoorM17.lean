/- Operations that only hand on, or whose guards are off: so many in one step. (and what follows) -/
import Derived.Test.YtgfhbachgniipaaDoorMz
import Derived.Test.YtgfhbachgniipaaDoorM1
import Derived.Test.YtgfhbachgniipaaDoorM16
import Derived.Test.YtgfhbachgniipaaDoorM9
set_option linter.unusedVariables false
set_option linter.unusedSimpArgs false
namespace Go.Proofs.YtgfhbachgniipaaDoor
open Go.RowKit
def puts (a : Act) (L : List (Tmp × Value)) : Act := L.foldl (fun a x => a.put (some x.1) x.2) a
theorem pl_deadK {P : Program} {ops : Array Oper} {Q : Exit → Act → World → Prop} {w : World} : ∀ (k : Nat) (r : List Oper) (a a' : Act), deadRun ops (r.take k) a = some a' → wpList P ops Q (r.drop k) a' w → wpList P ops Q r a w
  | 0, r, a, a', h, hk => by
    simp only [List.take_zero, deadRun, Option.some.injEq] at h
    subst h
    simpa using hk
  | k + 1, [], a, a', h, hk => by
    simp only [List.take_nil, deadRun, Option.some.injEq] at h
    subst h
    simpa using hk
  | k + 1, o :: r, a, a', h, hk => by
    rw [List.take_succ_cons] at h
    unfold deadRun at h
    cases hs : deadStep ops o a with
    | none => rw [hs] at h; cases h
    | some a1 =>
      rw [hs] at h
      rw [List.drop_succ_cons] at hk
      unfold wpList
      rcases deadStep_spec (P := P) hs with ⟨hw, rfl⟩ | ⟨hw, v, rfl, hr⟩
      · rw [hw]; exact pl_deadK k r _ _ h hk
      · rw [if_pos hw]
        refine .inl ?_
        unfold Oper.wp
        rw [hr]
        exact pl_deadK k r _ _ h hk
theorem pl_deadP {P : Program} {ops : Array Oper} {Q : Exit → Act → World → Prop} {w : World} {r r' : List Oper} {a a' : Act} (k : Nat) (L : List (Tmp × Value)) (hr : r.drop k = r') (h : deadRun ops (r.take k) a = some (puts a L)) (ha : puts a L = a') (hk : wpList P ops Q r' a' w) : wpList P ops Q r a w := by
  subst hr ha
  exact pl_deadK k r a _ h hk
end Go.Proofs.YtgfhbachgniipaaDoor

namespace Go.Proofs.YtgfhbachgniipaaDoor
open Go.RowKit
structure TokCome (t : Tok) : Prop where
  n : t.gs.length ≤ 140737488351232
  id : intOk t.id
  gs : ∀ g ∈ t.gs, intOk g.r ∧ intOk g.u
  mac : t.mac.length = 32
theorem tokCome_of {t : Tok} (h : rdTok.ok reachBytes t) (hm : t.mac.length = 32) : TokCome t := by
  obtain ⟨-, h1, ⟨h2, h3⟩, -⟩ := h
  exact ⟨h2, (wf_int _).1 h1, fun g hg => ⟨(wf_int _).1 (h3 g hg).1, (wf_int _).1 (h3 g hg).2.2.2⟩, hm⟩
def wantT (t : Tok) : Int := if 6 < t.gs.length then 3 else if longT t = true then 5 else 0
theorem cmd_tok (c : Cmd) (h : cmdG c = 0) (t : Tok) : cmdG { c with tok := t } = wantT t := by
  unfold cmdG at h ⊢
  unfold wantT
  simp only
  by_cases h1 : c.kind < 1 ∨ 8 < c.kind
  · rw [if_pos h1] at h; cases h
  rw [if_neg h1] at h ⊢
  by_cases h2 : (!namedG c.st (hasF c.kind 0) || !namedG c.su (hasF c.kind 1)) = true
  · rw [if_pos h2] at h; cases h
  rw [if_neg h2] at h ⊢
  by_cases h3 : (oddG (hasF c.kind 2) c.ex (-1) 1000 || (oddG (hasF c.kind 4) c.fr 1 1099511627776 || (oddG (hasF c.kind 5) c.ct 0 64 || (oddG (hasF c.kind 7) c.id 1 1099511627776 || (hasF c.kind 3 && decide (c.bodies.length = 0)))))) = true
  · rw [if_pos h3] at h; cases h
  rw [if_neg h3] at h ⊢
  by_cases h4 : 4 < c.bodies.length ∨ 6 < c.tok.gs.length
  · rw [if_pos h4] at h; cases h
  rw [if_neg h4] at h
  by_cases h5 : (c.bodies.any longB || longT c.tok) = true
  · rw [if_pos h5] at h; cases h
  rw [if_neg h5] at h
  have hfg : foreignG { c with tok := t } = foreignG c := rfl
  rw [hfg, h]
  have h6 : c.bodies.any longB = false := by
    have : (c.bodies.any longB || longT c.tok) = false := by simpa using h5
    rw [Bool.or_eq_false_iff] at this
    exact this.1
  rw [h6, Bool.false_or]
  by_cases h7 : 6 < t.gs.length
  · rw [if_pos (.inr h7), if_pos h7]
  · rw [if_neg (by omega), if_neg h7]
theorem ans_tok (t : Tok) : ansG { zAns with tok := t } = wantT t := by
  unfold ansG wantT zAns
  simp only [List.length_nil, List.any_nil, Bool.or_false]
  by_cases h7 : 6 < t.gs.length
  · rw [if_pos (.inr (.inr h7)), if_pos h7]
  · rw [if_neg (by omega), if_neg h7]
theorem ask_nums (k : Nat) (hk : 1 ≤ k ∧ k ≤ 8) : (intOk (askG k).kind ∧ intOk (askG k).ex ∧ intOk (askG k).fr ∧ intOk (askG k).ct ∧ intOk (askG k).id ∧ intOk (askG k).gr.r ∧ intOk (askG k).gr.u) ∧ ((askG k).st.size ≤ 1048576 ∧ (askG k).su.size ≤ 1048576 ∧ (askG k).gr.p.size ≤ 1048576) ∧ (askG k).bodies.length ≤ 100 ∧ ∀ x ∈ (askG k).bodies, x.length ≤ 1048576 := by
  unfold intOk
  obtain rfl | rfl | rfl | rfl | rfl | rfl | rfl | rfl := (by omega : k = 1 ∨ k = 2 ∨ k = 3 ∨ k = 4 ∨ k = 5 ∨ k = 6 ∨ k = 7 ∨ k = 8)
  all_goals decide +kernel
theorem tok_fit (k : Nat) (hk : 1 ≤ k ∧ k ≤ 8) (t : Tok) (hs : TokSmall t) (hi : TokCome t) : CmdFitL { askG k with tok := t } := by
  have h : TokFit t := ⟨by have := hs.ten; omega, hi.id, by have := hs.n; omega, fun g hg => ⟨(hi.gs g hg).1, by have := hs.p g hg; omega, (hi.gs g hg).2⟩, hi.mac⟩
  obtain ⟨⟨h1, h2, h3, h4, h5, h6, h7⟩, ⟨h8, h9, h10⟩, h11, h12⟩ := ask_nums k hk
  exact ⟨h, h1, h2, h3, h4, h5, h6, h7, h8, h9, h10, h11, h12⟩
theorem tok_ints (k : Nat) (hk : 1 ≤ k ∧ k ≤ 8) (t : Tok) (hi : TokCome t) : CmdInts { askG k with tok := t } := by
  obtain ⟨⟨h1, h2, h3, h4, h5, h6, h7⟩, -, -, -⟩ := ask_nums k hk
  exact ⟨h1, h2, h3, h4, h5, h6, h7, hi.id, hi.gs, hi.mac⟩
theorem tok_alen (t : Tok) (hs : TokSmall t) : AnsLen { zAns with tok := t } :=
  ⟨by have := hs.n; show t.gs.length ≤ _; omega, fun g hg => by have := hs.p g hg; omega, Nat.zero_le _, (fun y hy => by simp [zAns] at hy), Nat.zero_le _⟩
theorem zipIdx_arr (l : List Value) : (⟨l⟩ : Array Value).zipIdx = ⟨l.zipIdx⟩ := by simp
theorem build_ans (t : Tok) (a : Value) : Array.foldl (fun (cs : Array Value) (x : Value × Nat) => cs.setIfInBounds (3 + x.snd) x.fst) #[.int .i64 0, .int .i64 0, .slice none 0 0, .string ⟨#[]⟩, .int .i64 0, .slice none 0 0, .int .u8 0, .int .u8 0, .int .u8 0, .int .u8 0, .int .u8 0, .int .u8 0, .int .u8 0, .int .u8 0, .int .u8 0, .int .u8 0, .int .u8 0, .int .u8 0, .int .u8 0, .int .u8 0, .int .u8 0, .int .u8 0, .int .u8 0, .int .u8 0, .int .u8 0, .int .u8 0, .int .u8 0, .int .u8 0, .int .u8 0, .int .u8 0, .int .u8 0, .int .u8 0, .int .u8 0, .int .u8 0, .int .u8 0, .int .u8 0, .int .u8 0, .int .u8 0, .slice none 0 0] (tokA t a).zipIdx 0 35 = ansA { zAns with tok := t } (.slice none 0 0) a (.slice none 0 0) := by
  rw [show 35 = (tokA t a).zipIdx.size by simp [tokA_size]]
  unfold tokA
  rw [zipIdx_arr]
  simp only [List.zipIdx_cons, List.zipIdx_nil, List.foldl_toArray', List.foldl_cons, List.foldl_nil, zzA, zz0, zzS, Nat.reduceAdd]
  rfl
theorem pair_of {α β : Type} (p : α × β) : ∃ r f, p = (r, f) := ⟨p.1, p.2, rfl⟩
def wantJ (t : Tok) (j : Nat) : Int := if (longS t.ten || (t.gs.take j).any fun g => longS g.p) = true then 5 else 0
set_option maxHeartbeats 9000000 in
set_option maxRecDepth 100000 in
theorem token_walk (w : World) (kind : Int) (hk : intOk kind) (t : Tok) (l : List Value) (hO : OfAt w) (H : ∃ a, l = (tokA t a).toList ∧ GsV w t.gs a) (hi : TokCome t) :
    Calls Tryd.prog 4 #[.int .i64 kind, .agg ⟨l⟩] w fun e w' => e = .returned (.bool true) ∧ Ext w w' := by
  obtain ⟨a, rfl, hG⟩ := H
  show Calls Tryd.prog 4 #[.int .i64 kind, .agg (tokA t a)] w _
  obtain ⟨k0, hk0, ek⟩ := pickv_lt kind 8 (by decide)
  have hpk := fun (w' : World) => pickv_any kind 8 hk (by decide) w'
  rw [show (8 : Int) = ((8 : Nat) : Int) from rfl, ek] at hpk
  rw [show ((8 : Nat) : Int) = 8 from rfl] at hpk
  obtain ⟨k, hk⟩ : ∃ k : Nat, 1 + (k0 : Int) = k := ⟨k0 + 1, by omega⟩
  have hk1 : 1 ≤ k := by omega
  have hk8 : k ≤ 8 := by omega
  have hask := fun (w' : World) => ask_any w' k ⟨hk1, hk8⟩
  rw [← hk] at hask
  obtain ⟨W, hW, hE, bx⟩ := box1 w (tokA t a) 27
  have B1 : Blk W w.heap.size 27 (tokA t a) := by rw [hW]; exact Blk.new _ _ _
  have l1 := fun (w' : World) (e : Ext W w') => load_whole (B1.ext e) 27 _ Tryd.underlying27 rfl (by kernel_rfl)
  have hGW := fun (w' : World) (e : Ext W w') => hG.ext (hE.trans e)
  have hOW := fun (w' : World) (e : Ext W w') => hO.ext (hE.trans e)
  have hwo := fun (w' : World) (e : Ext W w') => works_any w' (hOW w' e)
  have hwd := wide_any W t a (hGW W (Ext.refl _)) (by have := hi.n; omega)
  unfold BigP at hwd
  have HK := Lib.hid hk
  clear bx hk ek hG hO
  go_enter Tryd.func4, Tryd.ntmps4
  go_upto_region 1 with fail
  rw [← hW]
  clear hW
  refine wp_region_lit ?_
  refine pl_y (v := ?_) (a' := ?_) rfl (by rfl) ?_ ?_ ?_
  rotate_left 2
  · (refine (run_op_load rfl ?_ ((l1 _ (Ext.refl _)))).trans ?_; (· rfl); (· with_reducible rfl))
  · simp only [Act.put, zzA, zz0, zzS]; rfl
  refine pl_call (args := ?_) Tryd.func9 (by kernel_rfl) rfl (by rfl) rfl rfl ?_ ?_
  rotate_left 1
  · go_simp; with_reducible rfl
  (with_reducible refine (hwd).mono ?_)
  rintro e w1 ⟨v, rfl, hv, hE1⟩
  refine ⟨_, _, rfl, (by simp only [Act.put, zzA, zz0, zzS]; rfl), ?_⟩
  refine wpList_nil ?_
  cases v
  rotate_left 1
  · go_wp2_with (go_at_call 8; (with_reducible refine (hwo _ hE1).mono ?_); rintro e w2 ⟨rfl, hE2⟩)
    go_ret
    exact ⟨rfl, hE.trans (hE1.trans hE2)⟩
  have hs := hv rfl
  clear hv hwd
  go_upto_region 3 with fail
  go_upto_region 4 with (first | (go_at_call 5; (with_reducible refine (hpk _).mono ?_); rintro e w1 ⟨rfl, rfl⟩) | (go_at_call 6; (with_reducible refine (hask _).mono ?_); rintro e w3 ⟨C, rfl, hC, hE3⟩; obtain ⟨z1, z2⟩ := hC.row; obtain ⟨V, hr, BV, hEV⟩ := box_row w3 32 #[.int .i64 0, .string ⟨#[]⟩, .int .i64 0, .slice none 0 0, .int .u8 0, .int .u8 0, .int .u8 0, .int .u8 0, .int .u8 0, .int .u8 0, .int .u8 0, .int .u8 0, .int .u8 0, .int .u8 0, .int .u8 0, .int .u8 0, .int .u8 0, .int .u8 0, .int .u8 0, .int .u8 0, .int .u8 0, .int .u8 0, .int .u8 0, .int .u8 0, .int .u8 0, .int .u8 0, .int .u8 0, .int .u8 0, .int .u8 0, .int .u8 0, .int .u8 0, .int .u8 0, .int .u8 0, .int .u8 0, .int .u8 0, .int .u8 0, .string ⟨#[]⟩, .string ⟨#[]⟩, .int .i64 0, .slice none 0 0, .int .i64 0, .int .i64 0, .int .i64 0, .string ⟨#[]⟩, .bool false, .int .i64 0, .int .i64 0] C z1.symm (by rw [z1]; kernel_rfl) z2) | (refine wpList_store_by rfl rfl ?_ ?_ hr ?_; (· rfl); (· rfl)))
  obtain ⟨a0, b0, rfl, hG0, hB0⟩ := hC
  clear hr z1 z2
  have hF3 := hE1.trans hE3
  have hFV := hF3.trans hEV
  obtain ⟨g, hg⟩ : ∃ z, w3.heap.size = z := ⟨_, rfl⟩
  rw [hg] at BV
  have hgV : w3.heap.size ≤ g := Nat.le_of_eq hg
  rw [hg]
  obtain ⟨Y, hr, B3, hX⟩ := store_part BV 1 (tokA t a) [.int .i64 (askG k).kind] (tokA (askG k).tok a0).toList [.string (askG k).st, .string (askG k).su, .int .i64 (askG k).ex, b0, .int .i64 (askG k).fr, .int .i64 (askG k).ct, .int .i64 (askG k).gr.r, .string (askG k).gr.p, .bool (askG k).gr.x, .int .i64 (askG k).gr.u, .int .i64 (askG k).id] rfl rfl rfl 27 (by kernel_rfl) (by obtain ⟨_, _, rfl, -⟩ := hGW W (Ext.refl _); exact one_tok _ _ rfl)
  have B3 : Blk Y g 32 (cmdA { askG k with tok := t } a b0) := B3
  have hEY : Ext w3 Y := Exc.ext hEV hX hgV
  have hFY := hF3.trans hEY
  have hB3 := hB0.ext hEY
  go_upto_region 5 with (first | (refine wpList_load_by rfl rfl ?_ (l1 _ hFV) ?_; (· rfl)) | (refine wpList_store_by rfl rfl ?_ ?_ hr ?_; (· rfl); (· rfl)))
  obtain ⟨A, n, rfl, hc, hS⟩ := hGW Y hFY
  have B1Y := B1.ext hFY
  clear hr hX
  have x0 := B1Y.cell 0 (v := .string t.ten) rfl
  have x2 := B1Y.cell 2 (v := .slice A t.gs.length n) rfl
  obtain ⟨p, hp⟩ : ∃ n, t.gs.length = n := ⟨_, rfl⟩
  have hpn := hs.n
  rw [hp] at hS hc x2 hpn
  have HP := Lib.hid hp
  clear hp B1Y
  have hgo : ∃ v, wantT t = v := ⟨_, rfl⟩
  obtain ⟨v, hv⟩ := hgo
  have hGA : GsV Y t.gs (.slice A t.gs.length n) := hGW Y hFY
  have hcmd : CmdAt Y { askG k with tok := t } (cmdA { askG k with tok := t } (.slice A t.gs.length n) b0) := ⟨_, _, rfl, hGA, hB3⟩
  have hfit := tok_fit k ⟨hk1, hk8⟩ t hs hi
  have hints := tok_ints k ⟨hk1, hk8⟩ t hi
  have hcv : cmdG { askG k with tok := t } = v := (cmd_tok _ (ask_fine k ⟨hk1, hk8⟩) t).trans hv
  have hck := ccheckq_any Y _ _ (hOW Y hFY) hcmd hfit.len
  have hak := fun (w' : World) (e : Ext Y w') => ansCheck_any w' { zAns with tok := t } (.slice none 0 0) (.slice A t.gs.length n) (.slice none 0 0) (HsV.nil _) (hGA.ext e) (EsV.nil _) (tok_alen t hs)
  have hpu := fun (w' : World) (e : Ext Y w') => cputq_any w' _ _ (hOW w' (hFY.trans e)) (hcmd.ext e) hfit
  rw [hcv] at hck hpu
  unfold PutQ at hpu
  rw [ans_tok, hv] at hak
  have ld := fun (w' : World) (e : Ext Y w') => load_whole (B3.ext e) 32 _ Tryd.underlying32 rfl (by kernel_rfl)
  have HV := Lib.hid hv
  have HGO := Lib.hid hcv
  clear hv hcv hGA hcmd B3
  by_cases h24 : 24 < t.ten.size
  · have H0 : Hid (wantJ t 0 = 5) := Lib.hid (by unfold wantJ longS; simp [h24])
    go_upto_region 9 with fail
    go_loopw [6, 7] (fun v i wr => ∃ j : Nat, j ≤ p ∧ v = .int .i64 (wantJ t j) ∧ i = .int .i64 j ∧ wr = Y) (fun _ i _ => p - (intOf i).toNat)
    case atStart => exact ⟨0, by omega, by rw [H0.out], rfl, rfl⟩
    case round =>
      obtain ⟨j, hj, rfl, rfl, rfl⟩ := hrel
      by_cases hlt : j < p
      · obtain ⟨b, o, cs, rfl, hK, hcell⟩ := hS.get j hlt
        obtain rfl := gr_cells hK
        have hl := HP.out
        have ht : t.gs.take (j + 1) = t.gs.take j ++ [t.gs[j]'(by omega)] := List.take_succ_eq_append_getElem (by omega)
        have hw1 : wantJ t (j + 1) = if longS (t.gs[j]'(by omega)).p = true then 5 else wantJ t j := by
          unfold wantJ
          rw [ht, List.any_append]
          simp only [List.any_cons, List.any_nil, Bool.or_false]
          generalize (t.gs.take j).any _ = z1
          generalize longS t.ten = z2
          generalize longS _ = z3
          cases z1 <;> cases z2 <;> cases z3 <;> rfl
        clear ht
        generalize t.gs[j]'(by omega) = x at *
        have y1 := hcell 1 (.string x.p) rfl
        have y1 : wr.cell? ⟨b, o + j * 4 + 1, none⟩ = some (.string x.p) := y1
        have HW := Lib.hid hw1
        by_cases hz : 24 < x.p.size
        · clear hS hK hcell hl hw1
          go_wp2_with fail
          go_roundw
          case rel =>
            refine ⟨j + 1, by omega, ?_, by go_num, by trivial⟩
            rw [HW.out, if_pos (by unfold longS; simp [hz])]
          case measure => simp [intOf]; omega
        · clear hS hK hcell hl hw1
          go_wp2_with fail
          go_roundw
          case rel =>
            refine ⟨j + 1, by omega, ?_, by go_num, by trivial⟩
            rw [HW.out, if_neg (by unfold longS; simpa using hz)]
          case measure => simp [intOf]; omega
      · obtain rfl : j = p := by omega
        have hJ : wantJ t j = if longT t = true then 5 else 0 := by unfold wantJ longT; rw [← HP.out, List.take_length]
        have hT : wantT t = if 6 < j then 3 else if longT t = true then 5 else 0 := by unfold wantT; rw [HP.out]
        have HL := Lib.hid HP.out
        rw [← hJ] at hT
        have hz : wantJ t j = 5 ∨ wantJ t j = 0 := by rw [hJ]; split <;> simp
        clear hJ
        generalize wantJ t j = z at *
        clear HP
        have HB := Lib.hid hB3
        have HS := Lib.hid hS
        by_cases h6 : 6 < j
        · rw [if_pos h6] at hT
          obtain rfl : v = 3 := HV.out.symm.trans hT
          clear hT hS hz
          go_upto_region 15 with fail
          clear HL x0 x2 H0
          have hts := tokA_size t (.slice A t.gs.length n)
          go_upto_region 17 with (first | (refine wpList_load_by rfl rfl ?_ (ld _ (by first | exact Ext.refl _ | assumption)) ?_; (· rfl)) | (refine wpList_load_w rfl rfl ?_ (l1 _ (hFY.trans hE5)) ?_; (· rfl)) | (go_at_call 7; (with_reducible refine hck.mono ?_); rintro e w5 ⟨rfl, hE5⟩) | (go_at_call 10; rw [build_ans]; (with_reducible refine (hak _ hE5).mono ?_); rintro e w6 ⟨rfl, hE6⟩))
          clear hck hak hts
          go_upto_region 18 with (first | (refine wpList_load_by rfl rfl ?_ (ld _ (hE5.trans hE6)) ?_; (· rfl)) | (go_at_call 11; (with_reducible refine (hpu _ (hE5.trans hE6)).mono ?_); rintro e w7 ⟨A7, n7, c7, rfl, hn7, hc7, -, hS7, hE7⟩))
          have hF7 := (hE5.trans hE6).trans hE7
          have hW7 := hFY.trans hF7
          have hS7 := hS7.mono only_cle
          have hl7 := putB_len hfit
          rw [hn7] at hl7
          obtain ⟨r, f, hg⟩ := pair_of (getC (putB { askG k with tok := t }))
          have hget := cgetq_any w7 A7 n7 c7 _ (hOW w7 hW7) hS7 hc7 hl7 r f hg
          clear hg hn7 hS7 hl7 hpu
          go_upto_region 19 with (first | (go_at_call 12; (with_reducible refine (hget).mono ?_); rintro e w8 ⟨C8, rfl, hC8, hE8⟩; obtain ⟨z1, z2⟩ := (CmdOwn.at_ hC8 (Nat.le_refl _)).row; obtain ⟨V8, hr, B8, hEV8⟩ := box_row w8 32 #[.int .i64 0, .string ⟨#[]⟩, .int .i64 0, .slice none 0 0, .int .u8 0, .int .u8 0, .int .u8 0, .int .u8 0, .int .u8 0, .int .u8 0, .int .u8 0, .int .u8 0, .int .u8 0, .int .u8 0, .int .u8 0, .int .u8 0, .int .u8 0, .int .u8 0, .int .u8 0, .int .u8 0, .int .u8 0, .int .u8 0, .int .u8 0, .int .u8 0, .int .u8 0, .int .u8 0, .int .u8 0, .int .u8 0, .int .u8 0, .int .u8 0, .int .u8 0, .int .u8 0, .int .u8 0, .int .u8 0, .int .u8 0, .int .u8 0, .string ⟨#[]⟩, .string ⟨#[]⟩, .int .i64 0, .slice none 0 0, .int .i64 0, .int .i64 0, .int .i64 0, .string ⟨#[]⟩, .bool false, .int .i64 0, .int .i64 0] C8 z1.symm (by rw [z1]; kernel_rfl) z2) | (refine wpList_store_by rfl rfl ?_ ?_ hr ?_; (· rfl); (· rfl)))
          have hF8 := hW7.trans (hE8.trans hEV8)
          clear hr z1 z2 hC8 B8 hget
          refine wp_region_lit ?_
          iterate 6 (first | (refine pl_off (a' := ?_) rfl (by rfl) ?_ ?_; rotate_left 1; (· simp only [Act.put, zzA, zz0, zzS]; rfl)) | (refine pl_y (v := ?_) (a' := ?_) rfl (by rfl) ?_ ?_ ?_; rotate_left 2; (· go_simp; with_reducible rfl); (· simp only [Act.put, zzA, zz0, zzS]; rfl)))
          refine pl_deadP (r' := ?_) (a' := ?_) 11 [(71, .bool true), (72, undef), (73, undef), (74, undef), (75, undef), (76, undef), (77, undef), (78, undef), (79, undef), (80, .bool true), (81, .bool true)] ?_ (by kernel_rfl) ?_ ?_
          rotate_left 2
          · simp only [List.drop_succ_cons, List.drop_zero]; rfl
          · simp only [puts, List.foldl_cons, List.foldl_nil, Act.put, zzA, zz0, zzS]; rfl
          refine pl_deadP (r' := ?_) (a' := ?_) 1 [(82, .bool true)] ?_ (by kernel_rfl) ?_ ?_
          rotate_left 2
          · simp only [List.drop_succ_cons, List.drop_zero]; rfl
          · simp only [puts, List.foldl_cons, List.foldl_nil, Act.put, zzA, zz0, zzS]; rfl
          refine pl_call (args := ?_) Tryd.func8 (by kernel_rfl) rfl (by rfl) rfl rfl ?_ ?_
          rotate_left 1
          · go_simp; with_reducible rfl
          (with_reducible refine (hwo _ hF8).mono ?_)
          rintro e w9 ⟨rfl, hE9⟩
          refine ⟨_, _, rfl, (by simp only [Act.put, zzA, zz0, zzS]; rfl), ?_⟩
          iterate 2 (first | (refine pl_off (a' := ?_) rfl (by rfl) ?_ ?_; rotate_left 1; (· simp only [Act.put, zzA, zz0, zzS]; rfl)) | (refine pl_y (v := ?_) (a' := ?_) rfl (by rfl) ?_ ?_ ?_; rotate_left 2; (· go_simp; with_reducible rfl); (· simp only [Act.put, zzA, zz0, zzS]; rfl)))
          refine wpList_nil ?_
          go_wp2_with fail
          go_ret
          exact ⟨rfl, hE.trans (hF8.trans hE9)⟩
        · rw [if_neg h6] at hT
          obtain rfl : v = z := HV.out.symm.trans hT
          clear hT hS
          rcases hz with rfl | rfl
          all_goals go_upto_region 15 with fail
          · clear HL x0 x2 H0
            have hts := tokA_size t (.slice A t.gs.length n)
            go_upto_region 17 with (first | (refine wpList_load_by rfl rfl ?_ (ld _ (by first | exact Ext.refl _ | assumption)) ?_; (· rfl)) | (refine wpList_load_w rfl rfl ?_ (l1 _ (hFY.trans hE5)) ?_; (· rfl)) | (go_at_call 7; (with_reducible refine hck.mono ?_); rintro e w5 ⟨rfl, hE5⟩) | (go_at_call 10; rw [build_ans]; (with_reducible refine (hak _ hE5).mono ?_); rintro e w6 ⟨rfl, hE6⟩))
            clear hck hak hts
            go_upto_region 18 with (first | (refine wpList_load_by rfl rfl ?_ (ld _ (hE5.trans hE6)) ?_; (· rfl)) | (go_at_call 11; (with_reducible refine (hpu _ (hE5.trans hE6)).mono ?_); rintro e w7 ⟨A7, n7, c7, rfl, hn7, hc7, -, hS7, hE7⟩))
            have hF7 := (hE5.trans hE6).trans hE7
            have hW7 := hFY.trans hF7
            have hS7 := hS7.mono only_cle
            have hl7 := putB_len hfit
            rw [hn7] at hl7
            obtain ⟨r, f, hg⟩ := pair_of (getC (putB { askG k with tok := t }))
            have hget := cgetq_any w7 A7 n7 c7 _ (hOW w7 hW7) hS7 hc7 hl7 r f hg
            clear hg hn7 hS7 hl7 hpu
            go_upto_region 19 with (first | (go_at_call 12; (with_reducible refine (hget).mono ?_); rintro e w8 ⟨C8, rfl, hC8, hE8⟩; obtain ⟨z1, z2⟩ := (CmdOwn.at_ hC8 (Nat.le_refl _)).row; obtain ⟨V8, hr, B8, hEV8⟩ := box_row w8 32 #[.int .i64 0, .string ⟨#[]⟩, .int .i64 0, .slice none 0 0, .int .u8 0, .int .u8 0, .int .u8 0, .int .u8 0, .int .u8 0, .int .u8 0, .int .u8 0, .int .u8 0, .int .u8 0, .int .u8 0, .int .u8 0, .int .u8 0, .int .u8 0, .int .u8 0, .int .u8 0, .int .u8 0, .int .u8 0, .int .u8 0, .int .u8 0, .int .u8 0, .int .u8 0, .int .u8 0, .int .u8 0, .int .u8 0, .int .u8 0, .int .u8 0, .int .u8 0, .int .u8 0, .int .u8 0, .int .u8 0, .int .u8 0, .int .u8 0, .string ⟨#[]⟩, .string ⟨#[]⟩, .int .i64 0, .slice none 0 0, .int .i64 0, .int .i64 0, .int .i64 0, .string ⟨#[]⟩, .bool false, .int .i64 0, .int .i64 0] C8 z1.symm (by rw [z1]; kernel_rfl) z2) | (refine wpList_store_by rfl rfl ?_ ?_ hr ?_; (· rfl); (· rfl)))
            have hF8 := hW7.trans (hE8.trans hEV8)
            clear hr z1 z2 hC8 B8 hget
            refine wp_region_lit ?_
            iterate 6 (first | (refine pl_off (a' := ?_) rfl (by rfl) ?_ ?_; rotate_left 1; (· simp only [Act.put, zzA, zz0, zzS]; rfl)) | (refine pl_y (v := ?_) (a' := ?_) rfl (by rfl) ?_ ?_ ?_; rotate_left 2; (· go_simp; with_reducible rfl); (· simp only [Act.put, zzA, zz0, zzS]; rfl)))
            refine pl_deadP (r' := ?_) (a' := ?_) 11 [(71, .bool true), (72, undef), (73, undef), (74, undef), (75, undef), (76, undef), (77, undef), (78, undef), (79, undef), (80, .bool true), (81, .bool true)] ?_ (by kernel_rfl) ?_ ?_
            rotate_left 2
            · simp only [List.drop_succ_cons, List.drop_zero]; rfl
            · simp only [puts, List.foldl_cons, List.foldl_nil, Act.put, zzA, zz0, zzS]; rfl
            refine pl_deadP (r' := ?_) (a' := ?_) 1 [(82, .bool true)] ?_ (by kernel_rfl) ?_ ?_
            rotate_left 2
            · simp only [List.drop_succ_cons, List.drop_zero]; rfl
            · simp only [puts, List.foldl_cons, List.foldl_nil, Act.put, zzA, zz0, zzS]; rfl
            refine pl_call (args := ?_) Tryd.func8 (by kernel_rfl) rfl (by rfl) rfl rfl ?_ ?_
            rotate_left 1
            · go_simp; with_reducible rfl
            (with_reducible refine (hwo _ hF8).mono ?_)
            rintro e w9 ⟨rfl, hE9⟩
            refine ⟨_, _, rfl, (by simp only [Act.put, zzA, zz0, zzS]; rfl), ?_⟩
            iterate 2 (first | (refine pl_off (a' := ?_) rfl (by rfl) ?_ ?_; rotate_left 1; (· simp only [Act.put, zzA, zz0, zzS]; rfl)) | (refine pl_y (v := ?_) (a' := ?_) rfl (by rfl) ?_ ?_ ?_; rotate_left 2; (· go_simp; with_reducible rfl); (· simp only [Act.put, zzA, zz0, zzS]; rfl)))
            refine wpList_nil ?_
            go_wp2_with fail
            go_ret
            exact ⟨rfl, hE.trans (hF8.trans hE9)⟩
          · clear HL x0 x2 H0
            have hts := tokA_size t (.slice A t.gs.length n)
            go_upto_region 17 with (first | (refine wpList_load_by rfl rfl ?_ (ld _ (by first | exact Ext.refl _ | assumption)) ?_; (· rfl)) | (refine wpList_load_w rfl rfl ?_ (l1 _ (hFY.trans hE5)) ?_; (· rfl)) | (go_at_call 7; (with_reducible refine hck.mono ?_); rintro e w5 ⟨rfl, hE5⟩) | (go_at_call 10; rw [build_ans]; (with_reducible refine (hak _ hE5).mono ?_); rintro e w6 ⟨rfl, hE6⟩))
            clear hck hak hts
            go_upto_region 18 with (first | (refine wpList_load_by rfl rfl ?_ (ld _ (hE5.trans hE6)) ?_; (· rfl)) | (go_at_call 11; (with_reducible refine (hpu _ (hE5.trans hE6)).mono ?_); rintro e w7 ⟨A7, n7, c7, rfl, hn7, hc7, -, hS7, hE7⟩))
            have hF7 := (hE5.trans hE6).trans hE7
            have hW7 := hFY.trans hF7
            have hS7 := hS7.mono only_cle
            have hl7 := putB_len hfit
            rw [hn7] at hl7
            have hcv := HGO.out
            have hpb : putB { askG k with tok := t } = cmdB { askG k with tok := t } := if_pos hcv
            rw [hpb] at hS7
            have hget := cgetq_any w7 A7 n7 c7 _ (hOW w7 hW7) hS7 hc7 hl7 _ 0 (c_back _ hcv hints)
            clear hn7 hS7 hl7 hpu hpb hcv
            go_upto_region 19 with (first | (go_at_call 12; (with_reducible refine (hget).mono ?_); rintro e w8 ⟨C8, rfl, hC8, hE8⟩; obtain ⟨z1, z2⟩ := (CmdOwn.at_ hC8 (Nat.le_refl _)).row; obtain ⟨V8, hr, B8, hEV8⟩ := box_row w8 32 #[.int .i64 0, .string ⟨#[]⟩, .int .i64 0, .slice none 0 0, .int .u8 0, .int .u8 0, .int .u8 0, .int .u8 0, .int .u8 0, .int .u8 0, .int .u8 0, .int .u8 0, .int .u8 0, .int .u8 0, .int .u8 0, .int .u8 0, .int .u8 0, .int .u8 0, .int .u8 0, .int .u8 0, .int .u8 0, .int .u8 0, .int .u8 0, .int .u8 0, .int .u8 0, .int .u8 0, .int .u8 0, .int .u8 0, .int .u8 0, .int .u8 0, .int .u8 0, .int .u8 0, .int .u8 0, .int .u8 0, .int .u8 0, .int .u8 0, .string ⟨#[]⟩, .string ⟨#[]⟩, .int .i64 0, .slice none 0 0, .int .i64 0, .int .i64 0, .int .i64 0, .string ⟨#[]⟩, .bool false, .int .i64 0, .int .i64 0] C8 z1.symm (by rw [z1]; kernel_rfl) z2) | (refine wpList_store_by rfl rfl ?_ ?_ hr ?_; (· rfl); (· rfl)))
            have hC8 := hC8.at_ (Nat.le_refl _)
            obtain ⟨a8, b8, rfl, hG8, -⟩ := hC8
            have hF8 := hW7.trans (hE8.trans hEV8)
            have ld8 := load_part B8 1 (tokA t a8) [.int .i64 (askG k).kind] [.string (askG k).st, .string (askG k).su, .int .i64 (askG k).ex, b8, .int .i64 (askG k).fr, .int .i64 (askG k).ct, .int .i64 (askG k).gr.r, .string (askG k).gr.p, .bool (askG k).gr.x, .int .i64 (askG k).gr.u, .int .i64 (askG k).id] rfl rfl 27 _ Tryd.underlying27 rfl (by kernel_rfl)
            have hst := sameToken_any V8 t a8 (.slice A t.gs.length n) (hG8.ext hEV8) (hGW V8 hF8) (by have := hs.n; omega)
            clear hr z1 z2 B8 hget
            refine wp_region_lit ?_
            iterate 6 (first | (refine pl_off (a' := ?_) rfl (by rfl) ?_ ?_; rotate_left 1; (· simp only [Act.put, zzA, zz0, zzS]; rfl)) | (refine pl_y (v := ?_) (a' := ?_) rfl (by rfl) ?_ ?_ ?_; rotate_left 2; (· go_simp; with_reducible rfl); (· simp only [Act.put, zzA, zz0, zzS]; rfl)))
            refine pl_deadP (r' := ?_) (a' := ?_) 2 [(71, .bool false), (72, .int .i64 0)] ?_ (by kernel_rfl) ?_ ?_
            rotate_left 2
            · simp only [List.drop_succ_cons, List.drop_zero]; rfl
            · simp only [puts, List.foldl_cons, List.foldl_nil, Act.put, zzA, zz0, zzS]; rfl
            iterate 1 (first | (refine pl_off (a' := ?_) rfl (by rfl) ?_ ?_; rotate_left 1; (· simp only [Act.put, zzA, zz0, zzS]; rfl)) | (refine pl_y (v := ?_) (a' := ?_) rfl (by rfl) ?_ ?_ ?_; rotate_left 2; (· go_simp; with_reducible rfl); (· simp only [Act.put, zzA, zz0, zzS]; rfl)))
            refine pl_deadP (r' := ?_) (a' := ?_) 1 [(74, .bool true)] ?_ (by kernel_rfl) ?_ ?_
            rotate_left 2
            · simp only [List.drop_succ_cons, List.drop_zero]; rfl
            · simp only [puts, List.foldl_cons, List.foldl_nil, Act.put, zzA, zz0, zzS]; rfl
            iterate 1 (first | (refine pl_off (a' := ?_) rfl (by rfl) ?_ ?_; rotate_left 1; (· simp only [Act.put, zzA, zz0, zzS]; rfl)) | (refine pl_y (v := ?_) (a' := ?_) rfl (by rfl) ?_ ?_ ?_; rotate_left 2; (· go_simp; with_reducible rfl); (· simp only [Act.put, zzA, zz0, zzS]; rfl)))
            refine pl_y (v := ?_) (a' := ?_) rfl (by rfl) ?_ ?_ ?_
            rotate_left 2
            · (refine (run_op_load rfl ?_ (ld8)).trans ?_; (· rfl); (· with_reducible rfl))
            · simp only [Act.put, zzA, zz0, zzS]; rfl
            refine pl_y (v := ?_) (a' := ?_) rfl (by rfl) ?_ ?_ ?_
            rotate_left 2
            · (refine (run_op_load rfl ?_ ((l1 _ hF8))).trans ?_; (· rfl); (· with_reducible rfl))
            · simp only [Act.put, zzA, zz0, zzS]; rfl
            refine pl_call (args := ?_) Tryd.func13 (by kernel_rfl) rfl (by rfl) rfl rfl ?_ ?_
            rotate_left 1
            · go_simp; with_reducible rfl
            (with_reducible refine (hst).mono ?_)
            rintro e w10 ⟨rfl, hE10⟩
            refine ⟨_, _, rfl, (by simp only [Act.put, zzA, zz0, zzS]; rfl), ?_⟩
            refine pl_deadP (r' := ?_) (a' := ?_) 4 [(79, .bool true), (80, .bool true), (81, .bool true), (82, .bool true)] ?_ (by kernel_rfl) ?_ ?_
            rotate_left 2
            · simp only [List.drop_succ_cons, List.drop_zero]; rfl
            · simp only [puts, List.foldl_cons, List.foldl_nil, Act.put, zzA, zz0, zzS]; rfl
            refine pl_call (args := ?_) Tryd.func8 (by kernel_rfl) rfl (by rfl) rfl rfl ?_ ?_
            rotate_left 1
            · go_simp; with_reducible rfl
            (with_reducible refine (hwo _ (hF8.trans hE10)).mono ?_)
            rintro e w9 ⟨rfl, hE9⟩
            refine ⟨_, _, rfl, (by simp only [Act.put, zzA, zz0, zzS]; rfl), ?_⟩
            iterate 2 (first | (refine pl_off (a' := ?_) rfl (by rfl) ?_ ?_; rotate_left 1; (· simp only [Act.put, zzA, zz0, zzS]; rfl)) | (refine pl_y (v := ?_) (a' := ?_) rfl (by rfl) ?_ ?_ ?_; rotate_left 2; (· go_simp; with_reducible rfl); (· simp only [Act.put, zzA, zz0, zzS]; rfl)))
            refine wpList_nil ?_
            go_wp2_with fail
            go_ret
            exact ⟨rfl, hE.trans ((hF8.trans hE10).trans hE9)⟩
  · have H0 : Hid (wantJ t 0 = 0) := Lib.hid (by unfold wantJ longS; simp [h24])
    go_upto_region 9 with fail
    go_loopw [6, 7] (fun v i wr => ∃ j : Nat, j ≤ p ∧ v = .int .i64 (wantJ t j) ∧ i = .int .i64 j ∧ wr = Y) (fun _ i _ => p - (intOf i).toNat)
    case atStart => exact ⟨0, by omega, by rw [H0.out], rfl, rfl⟩
    case round =>
      obtain ⟨j, hj, rfl, rfl, rfl⟩ := hrel
      by_cases hlt : j < p
      · obtain ⟨b, o, cs, rfl, hK, hcell⟩ := hS.get j hlt
        obtain rfl := gr_cells hK
        have hl := HP.out
        have ht : t.gs.take (j + 1) = t.gs.take j ++ [t.gs[j]'(by omega)] := List.take_succ_eq_append_getElem (by omega)
        have hw1 : wantJ t (j + 1) = if longS (t.gs[j]'(by omega)).p = true then 5 else wantJ t j := by
          unfold wantJ
          rw [ht, List.any_append]
          simp only [List.any_cons, List.any_nil, Bool.or_false]
          generalize (t.gs.take j).any _ = z1
          generalize longS t.ten = z2
          generalize longS _ = z3
          cases z1 <;> cases z2 <;> cases z3 <;> rfl
        clear ht
        generalize t.gs[j]'(by omega) = x at *
        have y1 := hcell 1 (.string x.p) rfl
        have y1 : wr.cell? ⟨b, o + j * 4 + 1, none⟩ = some (.string x.p) := y1
        have HW := Lib.hid hw1
        by_cases hz : 24 < x.p.size
        · clear hS hK hcell hl hw1
          go_wp2_with fail
          go_roundw
          case rel =>
            refine ⟨j + 1, by omega, ?_, by go_num, by trivial⟩
            rw [HW.out, if_pos (by unfold longS; simp [hz])]
          case measure => simp [intOf]; omega
        · clear hS hK hcell hl hw1
          go_wp2_with fail
          go_roundw
          case rel =>
            refine ⟨j + 1, by omega, ?_, by go_num, by trivial⟩
            rw [HW.out, if_neg (by unfold longS; simpa using hz)]
          case measure => simp [intOf]; omega
      · obtain rfl : j = p := by omega
        have hJ : wantJ t j = if longT t = true then 5 else 0 := by unfold wantJ longT; rw [← HP.out, List.take_length]
        have hT : wantT t = if 6 < j then 3 else if longT t = true then 5 else 0 := by unfold wantT; rw [HP.out]
        have HL := Lib.hid HP.out
        rw [← hJ] at hT
        have hz : wantJ t j = 5 ∨ wantJ t j = 0 := by rw [hJ]; split <;> simp
        clear hJ
        generalize wantJ t j = z at *
        clear HP
        have HB := Lib.hid hB3
        have HS := Lib.hid hS
        by_cases h6 : 6 < j
        · rw [if_pos h6] at hT
          obtain rfl : v = 3 := HV.out.symm.trans hT
          clear hT hS hz
          go_upto_region 15 with fail
          clear HL x0 x2 H0
          have hts := tokA_size t (.slice A t.gs.length n)
          go_upto_region 17 with (first | (refine wpList_load_by rfl rfl ?_ (ld _ (by first | exact Ext.refl _ | assumption)) ?_; (· rfl)) | (refine wpList_load_w rfl rfl ?_ (l1 _ (hFY.trans hE5)) ?_; (· rfl)) | (go_at_call 7; (with_reducible refine hck.mono ?_); rintro e w5 ⟨rfl, hE5⟩) | (go_at_call 10; rw [build_ans]; (with_reducible refine (hak _ hE5).mono ?_); rintro e w6 ⟨rfl, hE6⟩))
          clear hck hak hts
          go_upto_region 18 with (first | (refine wpList_load_by rfl rfl ?_ (ld _ (hE5.trans hE6)) ?_; (· rfl)) | (go_at_call 11; (with_reducible refine (hpu _ (hE5.trans hE6)).mono ?_); rintro e w7 ⟨A7, n7, c7, rfl, hn7, hc7, -, hS7, hE7⟩))
          have hF7 := (hE5.trans hE6).trans hE7
          have hW7 := hFY.trans hF7
          have hS7 := hS7.mono only_cle
          have hl7 := putB_len hfit
          rw [hn7] at hl7
          obtain ⟨r, f, hg⟩ := pair_of (getC (putB { askG k with tok := t }))
          have hget := cgetq_any w7 A7 n7 c7 _ (hOW w7 hW7) hS7 hc7 hl7 r f hg
          clear hg hn7 hS7 hl7 hpu
          go_upto_region 19 with (first | (go_at_call 12; (with_reducible refine (hget).mono ?_); rintro e w8 ⟨C8, rfl, hC8, hE8⟩; obtain ⟨z1, z2⟩ := (CmdOwn.at_ hC8 (Nat.le_refl _)).row; obtain ⟨V8, hr, B8, hEV8⟩ := box_row w8 32 #[.int .i64 0, .string ⟨#[]⟩, .int .i64 0, .slice none 0 0, .int .u8 0, .int .u8 0, .int .u8 0, .int .u8 0, .int .u8 0, .int .u8 0, .int .u8 0, .int .u8 0, .int .u8 0, .int .u8 0, .int .u8 0, .int .u8 0, .int .u8 0, .int .u8 0, .int .u8 0, .int .u8 0, .int .u8 0, .int .u8 0, .int .u8 0, .int .u8 0, .int .u8 0, .int .u8 0, .int .u8 0, .int .u8 0, .int .u8 0, .int .u8 0, .int .u8 0, .int .u8 0, .int .u8 0, .int .u8 0, .int .u8 0, .int .u8 0, .string ⟨#[]⟩, .string ⟨#[]⟩, .int .i64 0, .slice none 0 0, .int .i64 0, .int .i64 0, .int .i64 0, .string ⟨#[]⟩, .bool false, .int .i64 0, .int .i64 0] C8 z1.symm (by rw [z1]; kernel_rfl) z2) | (refine wpList_store_by rfl rfl ?_ ?_ hr ?_; (· rfl); (· rfl)))
          have hF8 := hW7.trans (hE8.trans hEV8)
          clear hr z1 z2 hC8 B8 hget
          refine wp_region_lit ?_
          iterate 6 (first | (refine pl_off (a' := ?_) rfl (by rfl) ?_ ?_; rotate_left 1; (· simp only [Act.put, zzA, zz0, zzS]; rfl)) | (refine pl_y (v := ?_) (a' := ?_) rfl (by rfl) ?_ ?_ ?_; rotate_left 2; (· go_simp; with_reducible rfl); (· simp only [Act.put, zzA, zz0, zzS]; rfl)))
          refine pl_deadP (r' := ?_) (a' := ?_) 11 [(71, .bool true), (72, undef), (73, undef), (74, undef), (75, undef), (76, undef), (77, undef), (78, undef), (79, undef), (80, .bool true), (81, .bool true)] ?_ (by kernel_rfl) ?_ ?_
          rotate_left 2
          · simp only [List.drop_succ_cons, List.drop_zero]; rfl
          · simp only [puts, List.foldl_cons, List.foldl_nil, Act.put, zzA, zz0, zzS]; rfl
          refine pl_deadP (r' := ?_) (a' := ?_) 1 [(82, .bool true)] ?_ (by kernel_rfl) ?_ ?_
          rotate_left 2
          · simp only [List.drop_succ_cons, List.drop_zero]; rfl
          · simp only [puts, List.foldl_cons, List.foldl_nil, Act.put, zzA, zz0, zzS]; rfl
          refine pl_call (args := ?_) Tryd.func8 (by kernel_rfl) rfl (by rfl) rfl rfl ?_ ?_
          rotate_left 1
          · go_simp; with_reducible rfl
          (with_reducible refine (hwo _ hF8).mono ?_)
          rintro e w9 ⟨rfl, hE9⟩
          refine ⟨_, _, rfl, (by simp only [Act.put, zzA, zz0, zzS]; rfl), ?_⟩
          iterate 2 (first | (refine pl_off (a' := ?_) rfl (by rfl) ?_ ?_; rotate_left 1; (· simp only [Act.put, zzA, zz0, zzS]; rfl)) | (refine pl_y (v := ?_) (a' := ?_) rfl (by rfl) ?_ ?_ ?_; rotate_left 2; (· go_simp; with_reducible rfl); (· simp only [Act.put, zzA, zz0, zzS]; rfl)))
          refine wpList_nil ?_
          go_wp2_with fail
          go_ret
          exact ⟨rfl, hE.trans (hF8.trans hE9)⟩
        · rw [if_neg h6] at hT
          obtain rfl : v = z := HV.out.symm.trans hT
          clear hT hS
          rcases hz with rfl | rfl
          all_goals go_upto_region 15 with fail
          · clear HL x0 x2 H0
            have hts := tokA_size t (.slice A t.gs.length n)
            go_upto_region 17 with (first | (refine wpList_load_by rfl rfl ?_ (ld _ (by first | exact Ext.refl _ | assumption)) ?_; (· rfl)) | (refine wpList_load_w rfl rfl ?_ (l1 _ (hFY.trans hE5)) ?_; (· rfl)) | (go_at_call 7; (with_reducible refine hck.mono ?_); rintro e w5 ⟨rfl, hE5⟩) | (go_at_call 10; rw [build_ans]; (with_reducible refine (hak _ hE5).mono ?_); rintro e w6 ⟨rfl, hE6⟩))
            clear hck hak hts
            go_upto_region 18 with (first | (refine wpList_load_by rfl rfl ?_ (ld _ (hE5.trans hE6)) ?_; (· rfl)) | (go_at_call 11; (with_reducible refine (hpu _ (hE5.trans hE6)).mono ?_); rintro e w7 ⟨A7, n7, c7, rfl, hn7, hc7, -, hS7, hE7⟩))
            have hF7 := (hE5.trans hE6).trans hE7
            have hW7 := hFY.trans hF7
            have hS7 := hS7.mono only_cle
            have hl7 := putB_len hfit
            rw [hn7] at hl7
            obtain ⟨r, f, hg⟩ := pair_of (getC (putB { askG k with tok := t }))
            have hget := cgetq_any w7 A7 n7 c7 _ (hOW w7 hW7) hS7 hc7 hl7 r f hg
            clear hg hn7 hS7 hl7 hpu
            go_upto_region 19 with (first | (go_at_call 12; (with_reducible refine (hget).mono ?_); rintro e w8 ⟨C8, rfl, hC8, hE8⟩; obtain ⟨z1, z2⟩ := (CmdOwn.at_ hC8 (Nat.le_refl _)).row; obtain ⟨V8, hr, B8, hEV8⟩ := box_row w8 32 #[.int .i64 0, .string ⟨#[]⟩, .int .i64 0, .slice none 0 0, .int .u8 0, .int .u8 0, .int .u8 0, .int .u8 0, .int .u8 0, .int .u8 0, .int .u8 0, .int .u8 0, .int .u8 0, .int .u8 0, .int .u8 0, .int .u8 0, .int .u8 0, .int .u8 0, .int .u8 0, .int .u8 0, .int .u8 0, .int .u8 0, .int .u8 0, .int .u8 0, .int .u8 0, .int .u8 0, .int .u8 0, .int .u8 0, .int .u8 0, .int .u8 0, .int .u8 0, .int .u8 0, .int .u8 0, .int .u8 0, .int .u8 0, .int .u8 0, .string ⟨#[]⟩, .string ⟨#[]⟩, .int .i64 0, .slice none 0 0, .int .i64 0, .int .i64 0, .int .i64 0, .string ⟨#[]⟩, .bool false, .int .i64 0, .int .i64 0] C8 z1.symm (by rw [z1]; kernel_rfl) z2) | (refine wpList_store_by rfl rfl ?_ ?_ hr ?_; (· rfl); (· rfl)))
            have hF8 := hW7.trans (hE8.trans hEV8)
            clear hr z1 z2 hC8 B8 hget
            refine wp_region_lit ?_
            iterate 6 (first | (refine pl_off (a' := ?_) rfl (by rfl) ?_ ?_; rotate_left 1; (· simp only [Act.put, zzA, zz0, zzS]; rfl)) | (refine pl_y (v := ?_) (a' := ?_) rfl (by rfl) ?_ ?_ ?_; rotate_left 2; (· go_simp; with_reducible rfl); (· simp only [Act.put, zzA, zz0, zzS]; rfl)))
            refine pl_deadP (r' := ?_) (a' := ?_) 11 [(71, .bool true), (72, undef), (73, undef), (74, undef), (75, undef), (76, undef), (77, undef), (78, undef), (79, undef), (80, .bool true), (81, .bool true)] ?_ (by kernel_rfl) ?_ ?_
            rotate_left 2
            · simp only [List.drop_succ_cons, List.drop_zero]; rfl
            · simp only [puts, List.foldl_cons, List.foldl_nil, Act.put, zzA, zz0, zzS]; rfl
            refine pl_deadP (r' := ?_) (a' := ?_) 1 [(82, .bool true)] ?_ (by kernel_rfl) ?_ ?_
            rotate_left 2
            · simp only [List.drop_succ_cons, List.drop_zero]; rfl
            · simp only [puts, List.foldl_cons, List.foldl_nil, Act.put, zzA, zz0, zzS]; rfl
            refine pl_call (args := ?_) Tryd.func8 (by kernel_rfl) rfl (by rfl) rfl rfl ?_ ?_
            rotate_left 1
            · go_simp; with_reducible rfl
            (with_reducible refine (hwo _ hF8).mono ?_)
            rintro e w9 ⟨rfl, hE9⟩
            refine ⟨_, _, rfl, (by simp only [Act.put, zzA, zz0, zzS]; rfl), ?_⟩
            iterate 2 (first | (refine pl_off (a' := ?_) rfl (by rfl) ?_ ?_; rotate_left 1; (· simp only [Act.put, zzA, zz0, zzS]; rfl)) | (refine pl_y (v := ?_) (a' := ?_) rfl (by rfl) ?_ ?_ ?_; rotate_left 2; (· go_simp; with_reducible rfl); (· simp only [Act.put, zzA, zz0, zzS]; rfl)))
            refine wpList_nil ?_
            go_wp2_with fail
            go_ret
            exact ⟨rfl, hE.trans (hF8.trans hE9)⟩
          · clear HL x0 x2 H0
            have hts := tokA_size t (.slice A t.gs.length n)
            go_upto_region 17 with (first | (refine wpList_load_by rfl rfl ?_ (ld _ (by first | exact Ext.refl _ | assumption)) ?_; (· rfl)) | (refine wpList_load_w rfl rfl ?_ (l1 _ (hFY.trans hE5)) ?_; (· rfl)) | (go_at_call 7; (with_reducible refine hck.mono ?_); rintro e w5 ⟨rfl, hE5⟩) | (go_at_call 10; rw [build_ans]; (with_reducible refine (hak _ hE5).mono ?_); rintro e w6 ⟨rfl, hE6⟩))
            clear hck hak hts
            go_upto_region 18 with (first | (refine wpList_load_by rfl rfl ?_ (ld _ (hE5.trans hE6)) ?_; (· rfl)) | (go_at_call 11; (with_reducible refine (hpu _ (hE5.trans hE6)).mono ?_); rintro e w7 ⟨A7, n7, c7, rfl, hn7, hc7, -, hS7, hE7⟩))
            have hF7 := (hE5.trans hE6).trans hE7
            have hW7 := hFY.trans hF7
            have hS7 := hS7.mono only_cle
            have hl7 := putB_len hfit
            rw [hn7] at hl7
            have hcv := HGO.out
            have hpb : putB { askG k with tok := t } = cmdB { askG k with tok := t } := if_pos hcv
            rw [hpb] at hS7
            have hget := cgetq_any w7 A7 n7 c7 _ (hOW w7 hW7) hS7 hc7 hl7 _ 0 (c_back _ hcv hints)
            clear hn7 hS7 hl7 hpu hpb hcv
            go_upto_region 19 with (first | (go_at_call 12; (with_reducible refine (hget).mono ?_); rintro e w8 ⟨C8, rfl, hC8, hE8⟩; obtain ⟨z1, z2⟩ := (CmdOwn.at_ hC8 (Nat.le_refl _)).row; obtain ⟨V8, hr, B8, hEV8⟩ := box_row w8 32 #[.int .i64 0, .string ⟨#[]⟩, .int .i64 0, .slice none 0 0, .int .u8 0, .int .u8 0, .int .u8 0, .int .u8 0, .int .u8 0, .int .u8 0, .int .u8 0, .int .u8 0, .int .u8 0, .int .u8 0, .int .u8 0, .int .u8 0, .int .u8 0, .int .u8 0, .int .u8 0, .int .u8 0, .int .u8 0, .int .u8 0, .int .u8 0, .int .u8 0, .int .u8 0, .int .u8 0, .int .u8 0, .int .u8 0, .int .u8 0, .int .u8 0, .int .u8 0, .int .u8 0, .int .u8 0, .int .u8 0, .int .u8 0, .int .u8 0, .string ⟨#[]⟩, .string ⟨#[]⟩, .int .i64 0, .slice none 0 0, .int .i64 0, .int .i64 0, .int .i64 0, .string ⟨#[]⟩, .bool false, .int .i64 0, .int .i64 0] C8 z1.symm (by rw [z1]; kernel_rfl) z2) | (refine wpList_store_by rfl rfl ?_ ?_ hr ?_; (· rfl); (· rfl)))
            have hC8 := hC8.at_ (Nat.le_refl _)
            obtain ⟨a8, b8, rfl, hG8, -⟩ := hC8
            have hF8 := hW7.trans (hE8.trans hEV8)
            have ld8 := load_part B8 1 (tokA t a8) [.int .i64 (askG k).kind] [.string (askG k).st, .string (askG k).su, .int .i64 (askG k).ex, b8, .int .i64 (askG k).fr, .int .i64 (askG k).ct, .int .i64 (askG k).gr.r, .string (askG k).gr.p, .bool (askG k).gr.x, .int .i64 (askG k).gr.u, .int .i64 (askG k).id] rfl rfl 27 _ Tryd.underlying27 rfl (by kernel_rfl)
            have hst := sameToken_any V8 t a8 (.slice A t.gs.length n) (hG8.ext hEV8) (hGW V8 hF8) (by have := hs.n; omega)
            clear hr z1 z2 B8 hget
            refine wp_region_lit ?_
            iterate 6 (first | (refine pl_off (a' := ?_) rfl (by rfl) ?_ ?_; rotate_left 1; (· simp only [Act.put, zzA, zz0, zzS]; rfl)) | (refine pl_y (v := ?_) (a' := ?_) rfl (by rfl) ?_ ?_ ?_; rotate_left 2; (· go_simp; with_reducible rfl); (· simp only [Act.put, zzA, zz0, zzS]; rfl)))
            refine pl_deadP (r' := ?_) (a' := ?_) 2 [(71, .bool false), (72, .int .i64 0)] ?_ (by kernel_rfl) ?_ ?_
            rotate_left 2
            · simp only [List.drop_succ_cons, List.drop_zero]; rfl
            · simp only [puts, List.foldl_cons, List.foldl_nil, Act.put, zzA, zz0, zzS]; rfl
            iterate 1 (first | (refine pl_off (a' := ?_) rfl (by rfl) ?_ ?_; rotate_left 1; (· simp only [Act.put, zzA, zz0, zzS]; rfl)) | (refine pl_y (v := ?_) (a' := ?_) rfl (by rfl) ?_ ?_ ?_; rotate_left 2; (· go_simp; with_reducible rfl); (· simp only [Act.put, zzA, zz0, zzS]; rfl)))
            refine pl_deadP (r' := ?_) (a' := ?_) 1 [(74, .bool true)] ?_ (by kernel_rfl) ?_ ?_
            rotate_left 2
            · simp only [List.drop_succ_cons, List.drop_zero]; rfl
            · simp only [puts, List.foldl_cons, List.foldl_nil, Act.put, zzA, zz0, zzS]; rfl
            iterate 1 (first | (refine pl_off (a' := ?_) rfl (by rfl) ?_ ?_; rotate_left 1; (· simp only [Act.put, zzA, zz0, zzS]; rfl)) | (refine pl_y (v := ?_) (a' := ?_) rfl (by rfl) ?_ ?_ ?_; rotate_left 2; (· go_simp; with_reducible rfl); (· simp only [Act.put, zzA, zz0, zzS]; rfl)))
            refine pl_y (v := ?_) (a' := ?_) rfl (by rfl) ?_ ?_ ?_
            rotate_left 2
            · (refine (run_op_load rfl ?_ (ld8)).trans ?_; (· rfl); (· with_reducible rfl))
            · simp only [Act.put, zzA, zz0, zzS]; rfl
            refine pl_y (v := ?_) (a' := ?_) rfl (by rfl) ?_ ?_ ?_
            rotate_left 2
            · (refine (run_op_load rfl ?_ ((l1 _ hF8))).trans ?_; (· rfl); (· with_reducible rfl))
            · simp only [Act.put, zzA, zz0, zzS]; rfl
            refine pl_call (args := ?_) Tryd.func13 (by kernel_rfl) rfl (by rfl) rfl rfl ?_ ?_
            rotate_left 1
            · go_simp; with_reducible rfl
            (with_reducible refine (hst).mono ?_)
            rintro e w10 ⟨rfl, hE10⟩
            refine ⟨_, _, rfl, (by simp only [Act.put, zzA, zz0, zzS]; rfl), ?_⟩
            refine pl_deadP (r' := ?_) (a' := ?_) 4 [(79, .bool true), (80, .bool true), (81, .bool true), (82, .bool true)] ?_ (by kernel_rfl) ?_ ?_
            rotate_left 2
            · simp only [List.drop_succ_cons, List.drop_zero]; rfl
            · simp only [puts, List.foldl_cons, List.foldl_nil, Act.put, zzA, zz0, zzS]; rfl
            refine pl_call (args := ?_) Tryd.func8 (by kernel_rfl) rfl (by rfl) rfl rfl ?_ ?_
            rotate_left 1
            · go_simp; with_reducible rfl
            (with_reducible refine (hwo _ (hF8.trans hE10)).mono ?_)
            rintro e w9 ⟨rfl, hE9⟩
            refine ⟨_, _, rfl, (by simp only [Act.put, zzA, zz0, zzS]; rfl), ?_⟩
            iterate 2 (first | (refine pl_off (a' := ?_) rfl (by rfl) ?_ ?_; rotate_left 1; (· simp only [Act.put, zzA, zz0, zzS]; rfl)) | (refine pl_y (v := ?_) (a' := ?_) rfl (by rfl) ?_ ?_ ?_; rotate_left 2; (· go_simp; with_reducible rfl); (· simp only [Act.put, zzA, zz0, zzS]; rfl)))
            refine wpList_nil ?_
            go_wp2_with fail
            go_ret
            exact ⟨rfl, hE.trans ((hF8.trans hE10).trans hE9)⟩
end Go.Proofs.YtgfhbachgniipaaDoor
