/- Tokens by the program: whose they are, whether they are well made, whether they verify, what they give. (and what follows) -/
import Derived.Test.YtjcpgjnogcmalaaDoorT7
import Derived.Test.YtjcpgjnogcmalaaDoorT6
import Derived.Test.YtjcpgjnogcmalaaDoorT3
import Derived.Test.YtjcpgjnogcmalaaDoorT4
import Derived.Lib.SliceRun
/-! Tokens by the program: whose they are, whether they are well made, whether they verify, what they give. -/
namespace Go.Proofs.YtjcpgjnogcmalaaDoor
set_option linter.unusedVariables false
set_option linter.unusedSimpArgs false
open Go.RowKit
def placedG (ten : ByteArray) (id : Int) : Int := if nm ten.data.toList = false then 10 else if id < 1 ∨ 1099511627776 < id then 1 else 0
def gChk (g : Grant) : Int := checkG g.r g.p g.x g.u
def gNar (a b : Grant) : Bool := narrowG a.r a.p a.x a.u b.r b.p b.x b.u
def goodAt (l : List Grant) (i : Nat) : Bool := gChk (l.getD i zGrant) == 0 && (i == 0 || gNar (l.getD (i - 1) zGrant) (l.getD i zGrant))
def goodTo (l : List Grant) (k : Nat) : Bool := (List.range k).all (goodAt l)
def madeG (t : Tok) : Bool := placedG t.ten t.id == 0 && (1 ≤ t.gs.length && t.gs.length ≤ 6) && goodTo t.gs t.gs.length
def verifyG (root : List UInt8) (t : Tok) : Int := if madeG t = true ∧ chain root t = t.mac then 0 else 19
def lastG (t : Tok) : Grant := t.gs.getLastD zGrant
theorem goodTo_succ (l : List Grant) (k : Nat) : goodTo l (k + 1) = (goodTo l k && goodAt l k) := by
  unfold goodTo
  rw [List.range_succ, List.all_append]
  simp
theorem goodTo_no (l : List Grant) (k n : Nat) (h : goodAt l k = false) (hk : k < n) : goodTo l n = false := by
  unfold goodTo
  rw [List.all_eq_false]
  exact ⟨k, List.mem_range.2 hk, by rw [h]; decide⟩
set_option maxHeartbeats 1000000 in
set_option maxRecDepth 100000 in
theorem placed_any (ten : ByteArray) (id : Int) (w : World) (hs : ten.size ≤ 9223372036854775807) :
    Calls Tryd.prog 59 #[.string ten, .int .i64 id] w fun e w' => e = .returned (.int .i64 (placedG ten id)) ∧ Ext w w' := by
  have hN := fun w' => name_any ten w' hs
  unfold placedG
  obtain ⟨v, hv⟩ : ∃ v, nm ten.data.toList = v := ⟨_, rfl⟩
  rw [hv] at hN ⊢
  cases v
  · go_enter Tryd.func59, Tryd.ntmps59
    go_wp2_with (go_at_call 20; (with_reducible refine (hN _).mono ?_); rintro e w1 ⟨rfl, hE1⟩)
    go_ret
    exact ⟨rfl, hE1⟩
  · rw [if_neg (by decide)]
    by_cases h1 : id < 1
    · rw [if_pos (.inl h1)]
      have d1 : decide (id < 1) = true := decide_eq_true h1
      go_enter Tryd.func59, Tryd.ntmps59
      go_wp2_with (go_at_call 20; (with_reducible refine (hN _).mono ?_); rintro e w1 ⟨rfl, hE1⟩)
      go_ret
      exact ⟨rfl, hE1⟩
    · have d1 : decide (id < 1) = false := decide_eq_false h1
      by_cases h2 : 1099511627776 < id
      · rw [if_pos (.inr h2)]
        have d2 : decide (1099511627776 < id) = true := decide_eq_true h2
        go_enter Tryd.func59, Tryd.ntmps59
        go_wp2_with (go_at_call 20; (with_reducible refine (hN _).mono ?_); rintro e w1 ⟨rfl, hE1⟩)
        go_ret
        exact ⟨rfl, hE1⟩
      · rw [if_neg (by omega)]
        have d2 : decide (1099511627776 < id) = false := decide_eq_false h2
        go_enter Tryd.func59, Tryd.ntmps59
        go_wp2_with (go_at_call 20; (with_reducible refine (hN _).mono ?_); rintro e w1 ⟨rfl, hE1⟩)
        go_ret
        exact ⟨rfl, hE1⟩
theorem gchk_any (g : Grant) (w : World) (hs : g.p.size ≤ 9223372036854775807) : Calls Tryd.prog 23 #[.agg (grA g)] w fun e w' => e = .returned (.int .i64 (gChk g)) ∧ Ext w w' := check_any g.r g.p g.x g.u w hs
theorem gnar_any (a b : Grant) (w : World) : Calls Tryd.prog 24 #[.agg (grA a), .agg (grA b)] w fun e w' => e = .returned (.bool (gNar a b)) ∧ Ext w w' := narrow_any a.r a.p a.x a.u b.r b.p b.x b.u w
theorem grA_size (g : Grant) : (grA g).size = 4 := rfl
theorem grA_one (g : Grant) : (grA g).all (·.oneCell') = true := by simp [grA, Value.oneCell']
theorem lastG_get (t : Tok) (h : 0 < t.gs.length) : t.gs[t.gs.length - 1]? = some (lastG t) := by
  unfold lastG
  rw [← List.getLast?_eq_getElem?, List.getLastD_eq_getLast?]
  cases h' : t.gs.getLast? with
  | none => rw [List.getLast?_eq_none_iff] at h'; rw [h'] at h; cases h
  | some x => rfl
set_option maxHeartbeats 9000000 in
set_option maxRecDepth 100000 in
theorem last_any (w : World) (t : Tok) (a : Value) (hG : GsV w t.gs a) (hn : t.gs.length ≤ 1000000) :
    Calls Tryd.prog 14 #[.agg (tokA t a)] w fun e w' => e = .returned (.agg (grA (lastG t))) ∧ Ext w w' := by
  obtain ⟨A, c, rfl, hc, hS⟩ := hG
  obtain ⟨n, hln⟩ : ∃ n, t.gs.length = n := ⟨_, rfl⟩
  rw [hln] at hS hc hn ⊢
  obtain ⟨W, hW, hE, bx, cx⟩ := box2 w (tokA t (.slice A n c)) #[.int .i64 0, .string ⟨#[]⟩, .bool false, .int .i64 0] 27 35
  have BR : Blk W (w.heap.size + 1) 35 #[.int .i64 0, .string ⟨#[]⟩, .bool false, .int .i64 0] := by rw [hW]; have := Blk.new (w.alloc (.cells (tokA t (.slice A n c)) 27)) 35 #[.int .i64 0, .string ⟨#[]⟩, .bool false, .int .i64 0]; simpa using this
  have x2 : W.cell? ⟨w.heap.size, 2, none⟩ = some (.slice A n c) := bx 2 _ rfl
  have hSW := hS.ext hE
  generalize tokA t (.slice A n c) = T at *
  clear bx cx hS
  rcases Nat.eq_zero_or_pos n with rfl | h0
  · have hz : lastG t = zGrant := by unfold lastG; rw [List.eq_nil_of_length_eq_zero hln]; rfl
    rw [hz]
    obtain ⟨w2, hst, B2, hX2⟩ := over_row (C := grA zGrant) BR rfl (by kernel_rfl) (grA_one _)
    go_enter Tryd.func14, Tryd.ntmps14
    go_upto_region 1 with fail
    rw [← hW]
    clear hW
    go_upto_region 2 with fail
    refine wp_region_lit ?_
    iterate 1 (first | (refine pl_off (a' := ?_) rfl (by rfl) ?_ ?_; rotate_left 1; (· simp only [Act.put, List.setIfInBounds_toArray, List.set_cons_zero, List.set_cons_succ]; rfl)) | (refine pl_y (v := ?_) (a' := ?_) rfl (by rfl) ?_ ?_ ?_; rotate_left 2; (· go_simp; with_reducible rfl); (· simp only [Act.put, List.setIfInBounds_toArray, List.set_cons_zero, List.set_cons_succ]; rfl)))
    refine pl_store (by rfl) rfl (run_op_store rfl ?_ ?_ hst) ?_
    · rfl
    · rfl
    refine wpList_nil ?_
    go_wp2_with fail
    refine bodyPost_ret (v := .agg (grA zGrant)) (results_cell_row (P := Tryd.prog) (fn := Tryd.f14) rfl _ w2 (w.heap.size + 1) _ _ _ _ rfl B2 Tryd.underlying35 rfl (by kernel_rfl)) rfl ?_
    exact ⟨rfl, Exc.ext hE hX2 (by omega)⟩
  · obtain ⟨b, o, rfl⟩ := el_addr hSW 0 h0
    have hg := lastG_get t (by omega)
    rw [hln] at hg
    have ldg := el_load gr_cells hSW (n - 1) (lastG t) hg 35 _ Tryd.underlying35 rfl (by kernel_rfl)
    simp only [show rdGr.sz = 4 from rfl] at ldg
    obtain ⟨GX, hGX⟩ : ∃ G, grA (lastG t) = G := ⟨_, rfl⟩
    have szG : GX.size = 4 := by rw [← hGX]; rfl
    have oneG : GX.all (·.oneCell') = true := by rw [← hGX]; exact grA_one _
    rw [hGX] at ldg ⊢
    clear hGX hg hSW
    have d0 : decide ((n : Int) = 0) = false := decide_eq_false (by omega)
    have i1 : IntKind.i64.wrap ((n : Int) - 1) = ((n - 1 : Nat) : Int) := by rw [IntWalk.i64_in _ (by omega)]; omega
    have i2 : n - 1 < n := by omega
    obtain ⟨m, hm⟩ : ∃ m, n - 1 = m := ⟨_, rfl⟩
    rw [hm] at ldg i1 i2
    have hz : ((n : Int) == 0) = false := by simp; omega
    obtain ⟨w2, hst, B2, hX2⟩ := over_row (C := GX) BR (by rw [szG]; rfl) (by rw [szG]; kernel_rfl) oneG
    go_enter Tryd.func14, Tryd.ntmps14
    go_upto_region 1 with fail
    rw [← hW]
    clear hW hm
    go_upto_region 3 with fail
    refine wp_region_lit ?_
    iterate 7 (first | (refine pl_off (a' := ?_) rfl (by rfl) ?_ ?_; rotate_left 1; (· simp only [Act.put, List.setIfInBounds_toArray, List.set_cons_zero, List.set_cons_succ]; rfl)) | (refine pl_y (v := ?_) (a' := ?_) rfl (by rfl) ?_ ?_ ?_; rotate_left 2; (· go_simp; with_reducible rfl); (· simp only [Act.put, List.setIfInBounds_toArray, List.set_cons_zero, List.set_cons_succ]; rfl)))
    refine pl_y (v := ?_) (a' := ?_) rfl (by rfl) ?_ ?_ ?_
    rotate_left 2
    · (refine (run_op_load rfl ?_ (ldg)).trans ?_; (· rfl); (· with_reducible rfl))
    · simp only [Act.put, List.setIfInBounds_toArray, List.set_cons_zero, List.set_cons_succ]; rfl
    refine pl_store (by rfl) rfl (run_op_store rfl ?_ ?_ hst) ?_
    · rfl
    · rfl
    refine wpList_nil ?_
    go_wp2_with fail
    refine bodyPost_ret (v := .agg GX) (results_cell_row (P := Tryd.prog) (fn := Tryd.f14) rfl _ w2 (w.heap.size + 1) _ _ _ _ rfl B2 Tryd.underlying35 rfl (by rw [szG]; kernel_rfl)) rfl ?_
    exact ⟨rfl, Exc.ext hE hX2 (by omega)⟩
end Go.Proofs.YtjcpgjnogcmalaaDoor

/-! Tokens by the program: well made or not. -/
namespace Go.Proofs.YtjcpgjnogcmalaaDoor
set_option linter.unusedVariables false
set_option linter.unusedSimpArgs false
open Go.RowKit
set_option maxHeartbeats 9000000 in
set_option maxRecDepth 100000 in
theorem made_any (w : World) (t : Tok) (a : Value) (hG : GsV w t.gs a) (hn : t.gs.length ≤ 1000000) (hts : t.ten.size ≤ 9223372036854775807) (hgs : ∀ g ∈ t.gs, g.p.size ≤ 9223372036854775807) :
    Calls Tryd.prog 44 #[.agg (tokA t a)] w fun e w' => e = .returned (.bool (madeG t)) ∧ Ext w w' := by
  obtain ⟨A, c, rfl, hc, hS⟩ := hG
  have hpl := fun (w' : World) => placed_any t.ten t.id w' hts
  unfold madeG
  obtain ⟨n, hln⟩ : ∃ n, t.gs.length = n := ⟨_, rfl⟩
  obtain ⟨pg, hpg⟩ : ∃ z, placedG t.ten t.id = z := ⟨_, rfl⟩
  rw [hpg] at hpl ⊢
  rw [hln] at hS hc hn ⊢
  obtain ⟨W, hW, hE, bx⟩ := box1 w (tokA t (.slice A n c)) 27
  have x0 : W.cell? ⟨w.heap.size, 0, none⟩ = some (.string t.ten) := bx 0 _ rfl
  have xr0 := fun (w' : World) (h : Ext W w') => h.cellk x0
  clear x0
  have x1 : W.cell? ⟨w.heap.size, 1, none⟩ = some (.int .i64 t.id) := bx 1 _ rfl
  have xr1 := fun (w' : World) (h : Ext W w') => h.cellk x1
  clear x1
  have x2 : W.cell? ⟨w.heap.size, 2, none⟩ = some (.slice A n c) := bx 2 _ rfl
  have xr2 := fun (w' : World) (h : Ext W w') => h.cellk x2
  clear x2
  have x0 := xr0 W (Ext.refl _)
  have x1 := xr1 W (Ext.refl _)
  have hSW := hS.ext hE
  generalize tokA t (.slice A n c) = T at *
  clear bx hS hpg
  by_cases hp : pg = 0
  · by_cases h1 : n < 1
    · have e : (pg == 0 && (decide (1 ≤ n) && decide (n ≤ 6)) && goodTo t.gs n) = false := by simp; omega
      rw [e]
      have d1 : decide ((n : Int) < 1) = true := decide_eq_true (by omega)
      subst hp
      go_enter Tryd.func44, Tryd.ntmps44
      go_upto_region 1 with fail
      rw [← hW]
      clear hW e
      go_wp2_with (go_at_call 59; (with_reducible refine (hpl _).mono ?_); rintro e w1 ⟨rfl, hE1⟩; have x2 := xr2 w1 hE1)
      go_ret
      exact ⟨rfl, hE.trans hE1⟩
    · have d1 : decide ((n : Int) < 1) = false := decide_eq_false (by omega)
      by_cases h2 : 6 < n
      · have e : (pg == 0 && (decide (1 ≤ n) && decide (n ≤ 6)) && goodTo t.gs n) = false := by simp; omega
        rw [e]
        have d2 : decide (6 < (n : Int)) = true := decide_eq_true (by omega)
        subst hp
        go_enter Tryd.func44, Tryd.ntmps44
        go_upto_region 1 with fail
        rw [← hW]
        clear hW e
        go_wp2_with (go_at_call 59; (with_reducible refine (hpl _).mono ?_); rintro e w1 ⟨rfl, hE1⟩; have x2 := xr2 w1 hE1)
        go_ret
        exact ⟨rfl, hE.trans hE1⟩
      · have d2 : decide (6 < (n : Int)) = false := decide_eq_false (by omega)
        have e : (pg == 0 && (decide (1 ≤ n) && decide (n ≤ 6)) && goodTo t.gs n) = goodTo t.gs n := by
          rw [hp, decide_eq_true (show 1 ≤ n by omega), decide_eq_true (show n ≤ 6 by omega)]; rfl
        rw [e]
        subst hp
        obtain ⟨b, o, rfl⟩ := el_addr hSW 0 (by omega)
        go_enter Tryd.func44, Tryd.ntmps44
        go_upto_region 1 with fail
        rw [← hW]
        clear hW e
        go_upto_region 3 with (go_at_call 59; (with_reducible refine (hpl _).mono ?_); rintro e w1 ⟨rfl, hE1⟩; have x2 := xr2 w1 hE1)
        go_upto_region 4 with fail
        have hE1' : Ext W w1 := hE1
        clear x0 x1 x2 xr0 xr1 hpl hE1 d1 d2
        go_loopw [26] (fun i wr => ∃ k : Nat, k ≤ n ∧ i = .int .i64 k ∧ goodTo t.gs k = true ∧ Ext W wr) (fun i _ => n - (intOf i).toNat)
        case atStart => exact ⟨0, by omega, rfl, rfl, hE1'⟩
        case round =>
          clear hE1'
          obtain ⟨k, hkn, rfl, hgk, hwr⟩ := hrel
          by_cases hlt : k < n
          · obtain ⟨x, hx⟩ : ∃ x, t.gs[k]? = some x := ⟨_, List.getElem?_eq_getElem (by omega)⟩
            have hxs := hgs x (List.mem_of_getElem? hx)
            have hgd : t.gs.getD k zGrant = x := by rw [List.getD_eq_getElem?_getD, hx]; rfl
            have ldg := el_load gr_cells (hSW.ext hwr) k x hx 35 _ Tryd.underlying35 rfl (by kernel_rfl)
            simp only [show rdGr.sz = 4 from rfl] at ldg
            have hck := fun (w' : World) => gchk_any x w' hxs
            obtain ⟨GX, hGX⟩ : ∃ G, grA x = G := ⟨_, rfl⟩
            have szG : GX.size = 4 := by rw [← hGX]; rfl
            have oneG : GX.all (·.oneCell') = true := by rw [← hGX]; exact grA_one _
            rw [hGX] at ldg hck
            have HGX := Lib.hid hGX
            have HHX := Lib.hid hx
            clear hGX hxs hx
            obtain ⟨w5, hst5, BG, hE5⟩ := box_row wr 35 #[.int .i64 0, .string ⟨#[]⟩, .bool false, .int .i64 0] GX (by rw [szG]; rfl) (by rw [szG]; kernel_rfl) oneG
            have hW5 := hwr.trans hE5
            have lr1 := fun (w' : World) (h : Ext w5 w') => load_whole (BG.ext h) 35 _ Tryd.underlying35 rfl (by rw [szG]; kernel_rfl)
            have hgo : goodAt t.gs k = (gChk x == 0 && (k == 0 || gNar (t.gs.getD (k - 1) zGrant) x)) := by unfold goodAt; rw [hgd]
            obtain ⟨gc, hgc⟩ : ∃ z, gChk x = z := ⟨_, rfl⟩
            rw [hgc] at hck hgo
            clear hgc hgd
            go_upto_region 5 with fail
            refine wp_region_lit ?_
            iterate 2 (first | (refine pl_off (a' := ?_) rfl (by rfl) ?_ ?_; rotate_left 1; (· simp only [Act.put, List.setIfInBounds_toArray, List.set_cons_zero, List.set_cons_succ]; rfl)) | (refine pl_y (v := ?_) (a' := ?_) rfl (by rfl) ?_ ?_ ?_; rotate_left 2; (· go_simp; with_reducible rfl); (· simp only [Act.put, List.setIfInBounds_toArray, List.set_cons_zero, List.set_cons_succ]; rfl)))
            refine pl_y (v := ?_) (a' := ?_) rfl (by rfl) ?_ ?_ ?_
            rotate_left 2
            · (refine (run_op_load rfl ?_ (ldg)).trans ?_; (· rfl); (· with_reducible rfl))
            · simp only [Act.put, List.setIfInBounds_toArray, List.set_cons_zero, List.set_cons_succ]; rfl
            refine pl_v (v := ?_) (w1 := ?_) (a' := ?_) rfl (by rfl) ?_ ?_ ?_
            rotate_left 3
            · go_simp; refine ⟨?_, ?_⟩ <;> with_reducible rfl
            · simp only [Act.put, List.setIfInBounds_toArray, List.set_cons_zero, List.set_cons_succ]; rfl
            iterate 1 (first | (refine pl_off (a' := ?_) rfl (by rfl) ?_ ?_; rotate_left 1; (· simp only [Act.put, List.setIfInBounds_toArray, List.set_cons_zero, List.set_cons_succ]; rfl)) | (refine pl_y (v := ?_) (a' := ?_) rfl (by rfl) ?_ ?_ ?_; rotate_left 2; (· go_simp; with_reducible rfl); (· simp only [Act.put, List.setIfInBounds_toArray, List.set_cons_zero, List.set_cons_succ]; rfl)))
            obtain ⟨gb, hgb⟩ : ∃ z, wr.heap.size = z := ⟨_, rfl⟩
            rw [hgb] at hst5 BG lr1 ⊢
            refine pl_store (by rfl) rfl (run_op_store rfl ?_ ?_ hst5) ?_
            · rfl
            · rfl
            refine wpList_nil ?_
            clear hst5 ldg
            by_cases hc0 : gc = 0
            · subst hc0
              by_cases hk0 : k = 0
              · subst hk0
                have hgo : goodAt t.gs 0 = true := by rw [hgo]; rfl
                go_upto_region 6 with fail
                refine wp_region_noPanic ?_
                refine tr_start (.y 0 (.e 1 (.y 2 (.y 3 (.y 4 (.y 5 (.y 6 (.y 7 (.y 8 (.y 9 (.y 10 (.y 11 (.y 12 (.y 13 (.y 14 (.y 15 (.y 16 (.y 17 .nil)))))))))))))))))) (fun w' => Ext w5 w') (by kernel_rfl) (by as_aux_lemma => kernel_rfl) (fun _ _ _ _ _ h => h) ((Ext.refl _).drew) ?_
                iterate 1 (first | (refine tr_off (a' := ?_) rfl rfl (by rfl) ?_ ?_; rotate_left 1; (· simp only [Act.put, List.setIfInBounds_toArray, List.set_cons_zero, List.set_cons_succ]; rfl)) | (refine tr_y (v := ?_) (a' := ?_) rfl rfl (by rfl) (fun w' hw' => ?_) ?_ ?_; rotate_left 2; (· first | (refine (run_op_load rfl ?_ (lr1 w' hw')).trans ?_; (· rfl); (· with_reducible rfl)) | (refine (run_op_load rfl ?_ (lr2 w' hw')).trans ?_; (· rfl); (· with_reducible rfl)) | (refine (run_op_load rfl ?_ (lr3 w' hw')).trans ?_; (· rfl); (· with_reducible rfl)) | (go_simp; with_reducible rfl)); (· simp only [Act.put, List.setIfInBounds_toArray, List.set_cons_zero, List.set_cons_succ]; rfl)))
                refine tr_call (args := ?_) rfl Tryd.func23 (by kernel_rfl) rfl (by rfl) rfl rfl ?_ ?_
                rotate_left 1
                · go_simp; rfl
                (with_reducible refine (hck _).mono ?_)
                rintro e w6 ⟨rfl, hE6⟩
                refine ⟨_, _, rfl, (Ext.refl _).drew.trans hE6, (by simp only [Act.put, List.setIfInBounds_toArray, List.set_cons_zero, List.set_cons_succ]; rfl), ?_⟩
                iterate 16 (first | (refine tr_off (a' := ?_) rfl rfl (by rfl) ?_ ?_; rotate_left 1; (· simp only [Act.put, List.setIfInBounds_toArray, List.set_cons_zero, List.set_cons_succ]; rfl)) | (refine tr_y (v := ?_) (a' := ?_) rfl rfl (by rfl) (fun w' hw' => ?_) ?_ ?_; rotate_left 2; (· first | (refine (run_op_load rfl ?_ (lr1 w' hw')).trans ?_; (· rfl); (· with_reducible rfl)) | (refine (run_op_load rfl ?_ (lr2 w' hw')).trans ?_; (· rfl); (· with_reducible rfl)) | (refine (run_op_load rfl ?_ (lr3 w' hw')).trans ?_; (· rfl); (· with_reducible rfl)) | (go_simp; with_reducible rfl)); (· simp only [Act.put, List.setIfInBounds_toArray, List.set_cons_zero, List.set_cons_succ]; rfl)))
                refine tr_end (NoPanic.normal ?_)
                go_wp2_with fail
                go_roundw
                case rel => exact ⟨1, by omega, by go_num, by rw [goodTo_succ, hgo]; rfl, hW5.trans ((Ext.refl _).drew.trans hE6)⟩
                case measure => simp [intOf]; omega
              · obtain ⟨y, hy⟩ : ∃ y, t.gs[k - 1]? = some y := ⟨_, List.getElem?_eq_getElem (by omega)⟩
                have hyd : t.gs.getD (k - 1) zGrant = y := by rw [List.getD_eq_getElem?_getD, hy]; rfl
                have hl := fun (w' : World) (h : Ext w5 w') => el_load gr_cells (hSW.ext (hW5.trans h)) (k - 1) y hy 35 _ Tryd.underlying35 rfl (by kernel_rfl)
                simp only [show rdGr.sz = 4 from rfl] at hl
                have hna := fun (w' : World) => gnar_any y x w'
                rw [HGX.out] at hna
                have lr2 := hl
                obtain ⟨GY, hGY⟩ : ∃ G, grA y = G := ⟨_, rfl⟩
                rw [hGY] at lr2 hna
                have hgo : goodAt t.gs k = gNar y x := by rw [hgo, hyd, show (k == 0) = false by simpa using hk0]; simp
                obtain ⟨gn, hgn⟩ : ∃ z, gNar y x = z := ⟨_, rfl⟩
                rw [hgn] at hna hgo
                clear hgn hGY hy hyd hl
                have i1 : IntKind.i64.wrap ((k : Int) - 1) = ((k - 1 : Nat) : Int) := by rw [IntWalk.i64_in _ (by omega)]; omega
                have dk : decide (0 < (k : Int)) = true := decide_eq_true (by omega)
                have dk' : decide (0 < k) = true := decide_eq_true (by omega)
                have i2 : k - 1 < n := by omega
                obtain ⟨m, hm⟩ : ∃ m, k - 1 = m := ⟨_, rfl⟩
                rw [hm] at lr2 i1 i2
                clear hm
                have xr2' := fun (w' : World) (h : Ext w5 w') => xr2 w' (hW5.trans h)
                clear xr2
                cases gn
                · go_upto_region 6 with fail
                  refine wp_region_noPanic ?_
                  refine tr_start (.y 0 (.e 1 (.y 2 (.y 3 (.y 4 (.y 5 (.y 6 (.y 7 (.y 8 (.y 9 (.y 10 (.y 11 (.y 12 (.y 13 (.e 14 (.y 15 (.y 16 (.y 17 .nil)))))))))))))))))) (fun w' => Ext w5 w') (by kernel_rfl) (by as_aux_lemma => kernel_rfl) (fun _ _ _ _ _ h => h) ((Ext.refl _).drew) ?_
                  iterate 1 (first | (refine tr_off (a' := ?_) rfl rfl (by rfl) ?_ ?_; rotate_left 1; (· simp only [Act.put, List.setIfInBounds_toArray, List.set_cons_zero, List.set_cons_succ]; rfl)) | (refine tr_y (v := ?_) (a' := ?_) rfl rfl (by rfl) (fun w' hw' => ?_) ?_ ?_; rotate_left 2; (· first | (refine (run_op_load rfl ?_ (lr1 w' hw')).trans ?_; (· rfl); (· with_reducible rfl)) | (refine (run_op_load rfl ?_ (lr2 w' hw')).trans ?_; (· rfl); (· with_reducible rfl)) | (refine (run_op_load rfl ?_ (lr3 w' hw')).trans ?_; (· rfl); (· with_reducible rfl)) | (go_simp; with_reducible rfl)); (· simp only [Act.put, List.setIfInBounds_toArray, List.set_cons_zero, List.set_cons_succ]; rfl)))
                  refine tr_call (args := ?_) rfl Tryd.func23 (by kernel_rfl) rfl (by rfl) rfl rfl ?_ ?_
                  rotate_left 1
                  · go_simp; rfl
                  (with_reducible refine (hck _).mono ?_)
                  rintro e w6 ⟨rfl, hE6⟩
                  refine ⟨_, _, rfl, (Ext.refl _).drew.trans hE6, (by simp only [Act.put, List.setIfInBounds_toArray, List.set_cons_zero, List.set_cons_succ]; rfl), ?_⟩
                  iterate 12 (first | (refine tr_off (a' := ?_) rfl rfl (by rfl) ?_ ?_; rotate_left 1; (· simp only [Act.put, List.setIfInBounds_toArray, List.set_cons_zero, List.set_cons_succ]; rfl)) | (refine tr_y (v := ?_) (a' := ?_) rfl rfl (by rfl) (fun w' hw' => ?_) ?_ ?_; rotate_left 2; (· first | (refine (run_op_load rfl ?_ (lr1 w' hw')).trans ?_; (· rfl); (· with_reducible rfl)) | (refine (run_op_load rfl ?_ (lr2 w' hw')).trans ?_; (· rfl); (· with_reducible rfl)) | (refine (run_op_load rfl ?_ (lr3 w' hw')).trans ?_; (· rfl); (· with_reducible rfl)) | (go_simp; with_reducible rfl)); (· simp only [Act.put, List.setIfInBounds_toArray, List.set_cons_zero, List.set_cons_succ]; rfl)))
                  refine tr_call (args := ?_) rfl Tryd.func24 (by kernel_rfl) rfl (by rfl) rfl rfl ?_ ?_
                  rotate_left 1
                  · go_simp; rfl
                  (with_reducible refine (hna _).mono ?_)
                  rintro e w7 ⟨rfl, hE7⟩
                  refine ⟨_, _, rfl, (Ext.refl _).drew.trans (hE6.trans hE7), (by simp only [Act.put, List.setIfInBounds_toArray, List.set_cons_zero, List.set_cons_succ]; rfl), ?_⟩
                  iterate 3 (first | (refine tr_off (a' := ?_) rfl rfl (by rfl) ?_ ?_; rotate_left 1; (· simp only [Act.put, List.setIfInBounds_toArray, List.set_cons_zero, List.set_cons_succ]; rfl)) | (refine tr_y (v := ?_) (a' := ?_) rfl rfl (by rfl) (fun w' hw' => ?_) ?_ ?_; rotate_left 2; (· first | (refine (run_op_load rfl ?_ (lr1 w' hw')).trans ?_; (· rfl); (· with_reducible rfl)) | (refine (run_op_load rfl ?_ (lr2 w' hw')).trans ?_; (· rfl); (· with_reducible rfl)) | (refine (run_op_load rfl ?_ (lr3 w' hw')).trans ?_; (· rfl); (· with_reducible rfl)) | (go_simp; with_reducible rfl)); (· simp only [Act.put, List.setIfInBounds_toArray, List.set_cons_zero, List.set_cons_succ]; rfl)))
                  refine tr_end (NoPanic.normal ?_)
                  go_wp2_with fail
                  go_ret
                  exact ⟨by rw [goodTo_no _ k n hgo hlt]; rfl, hE.trans (hW5.trans ((Ext.refl _).drew.trans (hE6.trans hE7)))⟩
                · go_upto_region 6 with fail
                  refine wp_region_noPanic ?_
                  refine tr_start (.y 0 (.e 1 (.y 2 (.y 3 (.y 4 (.y 5 (.y 6 (.y 7 (.y 8 (.y 9 (.y 10 (.y 11 (.y 12 (.y 13 (.e 14 (.y 15 (.y 16 (.y 17 .nil)))))))))))))))))) (fun w' => Ext w5 w') (by kernel_rfl) (by as_aux_lemma => kernel_rfl) (fun _ _ _ _ _ h => h) ((Ext.refl _).drew) ?_
                  iterate 1 (first | (refine tr_off (a' := ?_) rfl rfl (by rfl) ?_ ?_; rotate_left 1; (· simp only [Act.put, List.setIfInBounds_toArray, List.set_cons_zero, List.set_cons_succ]; rfl)) | (refine tr_y (v := ?_) (a' := ?_) rfl rfl (by rfl) (fun w' hw' => ?_) ?_ ?_; rotate_left 2; (· first | (refine (run_op_load rfl ?_ (lr1 w' hw')).trans ?_; (· rfl); (· with_reducible rfl)) | (refine (run_op_load rfl ?_ (lr2 w' hw')).trans ?_; (· rfl); (· with_reducible rfl)) | (refine (run_op_load rfl ?_ (lr3 w' hw')).trans ?_; (· rfl); (· with_reducible rfl)) | (go_simp; with_reducible rfl)); (· simp only [Act.put, List.setIfInBounds_toArray, List.set_cons_zero, List.set_cons_succ]; rfl)))
                  refine tr_call (args := ?_) rfl Tryd.func23 (by kernel_rfl) rfl (by rfl) rfl rfl ?_ ?_
                  rotate_left 1
                  · go_simp; rfl
                  (with_reducible refine (hck _).mono ?_)
                  rintro e w6 ⟨rfl, hE6⟩
                  refine ⟨_, _, rfl, (Ext.refl _).drew.trans hE6, (by simp only [Act.put, List.setIfInBounds_toArray, List.set_cons_zero, List.set_cons_succ]; rfl), ?_⟩
                  iterate 12 (first | (refine tr_off (a' := ?_) rfl rfl (by rfl) ?_ ?_; rotate_left 1; (· simp only [Act.put, List.setIfInBounds_toArray, List.set_cons_zero, List.set_cons_succ]; rfl)) | (refine tr_y (v := ?_) (a' := ?_) rfl rfl (by rfl) (fun w' hw' => ?_) ?_ ?_; rotate_left 2; (· first | (refine (run_op_load rfl ?_ (lr1 w' hw')).trans ?_; (· rfl); (· with_reducible rfl)) | (refine (run_op_load rfl ?_ (lr2 w' hw')).trans ?_; (· rfl); (· with_reducible rfl)) | (refine (run_op_load rfl ?_ (lr3 w' hw')).trans ?_; (· rfl); (· with_reducible rfl)) | (go_simp; with_reducible rfl)); (· simp only [Act.put, List.setIfInBounds_toArray, List.set_cons_zero, List.set_cons_succ]; rfl)))
                  refine tr_call (args := ?_) rfl Tryd.func24 (by kernel_rfl) rfl (by rfl) rfl rfl ?_ ?_
                  rotate_left 1
                  · go_simp; rfl
                  (with_reducible refine (hna _).mono ?_)
                  rintro e w7 ⟨rfl, hE7⟩
                  refine ⟨_, _, rfl, (Ext.refl _).drew.trans (hE6.trans hE7), (by simp only [Act.put, List.setIfInBounds_toArray, List.set_cons_zero, List.set_cons_succ]; rfl), ?_⟩
                  iterate 3 (first | (refine tr_off (a' := ?_) rfl rfl (by rfl) ?_ ?_; rotate_left 1; (· simp only [Act.put, List.setIfInBounds_toArray, List.set_cons_zero, List.set_cons_succ]; rfl)) | (refine tr_y (v := ?_) (a' := ?_) rfl rfl (by rfl) (fun w' hw' => ?_) ?_ ?_; rotate_left 2; (· first | (refine (run_op_load rfl ?_ (lr1 w' hw')).trans ?_; (· rfl); (· with_reducible rfl)) | (refine (run_op_load rfl ?_ (lr2 w' hw')).trans ?_; (· rfl); (· with_reducible rfl)) | (refine (run_op_load rfl ?_ (lr3 w' hw')).trans ?_; (· rfl); (· with_reducible rfl)) | (go_simp; with_reducible rfl)); (· simp only [Act.put, List.setIfInBounds_toArray, List.set_cons_zero, List.set_cons_succ]; rfl)))
                  refine tr_end (NoPanic.normal ?_)
                  go_wp2_with fail
                  go_roundw
                  case rel => exact ⟨k + 1, by omega, by go_num, by rw [goodTo_succ, hgo, hgk]; rfl, hW5.trans ((Ext.refl _).drew.trans (hE6.trans hE7))⟩
                  case measure => simp [intOf]; omega
            · have hc' : (gc == 0) = false := by simpa using hc0
              have hgo : goodAt t.gs k = false := by rw [hgo, hc']; rfl
              have hc2 : (gc != 0) = true := by simpa using hc0
              go_upto_region 6 with fail
              refine wp_region_noPanic ?_
              refine tr_start (.y 0 (.e 1 (.y 2 (.y 3 (.y 4 (.y 5 (.y 6 (.y 7 (.y 8 (.y 9 (.y 10 (.y 11 (.y 12 (.y 13 (.y 14 (.y 15 (.y 16 (.y 17 .nil)))))))))))))))))) (fun w' => Ext w5 w') (by kernel_rfl) (by as_aux_lemma => kernel_rfl) (fun _ _ _ _ _ h => h) ((Ext.refl _).drew) ?_
              iterate 1 (first | (refine tr_off (a' := ?_) rfl rfl (by rfl) ?_ ?_; rotate_left 1; (· simp only [Act.put, List.setIfInBounds_toArray, List.set_cons_zero, List.set_cons_succ]; rfl)) | (refine tr_y (v := ?_) (a' := ?_) rfl rfl (by rfl) (fun w' hw' => ?_) ?_ ?_; rotate_left 2; (· first | (refine (run_op_load rfl ?_ (lr1 w' hw')).trans ?_; (· rfl); (· with_reducible rfl)) | (refine (run_op_load rfl ?_ (lr2 w' hw')).trans ?_; (· rfl); (· with_reducible rfl)) | (refine (run_op_load rfl ?_ (lr3 w' hw')).trans ?_; (· rfl); (· with_reducible rfl)) | (go_simp; with_reducible rfl)); (· simp only [Act.put, List.setIfInBounds_toArray, List.set_cons_zero, List.set_cons_succ]; rfl)))
              refine tr_call (args := ?_) rfl Tryd.func23 (by kernel_rfl) rfl (by rfl) rfl rfl ?_ ?_
              rotate_left 1
              · go_simp; rfl
              (with_reducible refine (hck _).mono ?_)
              rintro e w6 ⟨rfl, hE6⟩
              refine ⟨_, _, rfl, (Ext.refl _).drew.trans hE6, (by simp only [Act.put, List.setIfInBounds_toArray, List.set_cons_zero, List.set_cons_succ]; rfl), ?_⟩
              iterate 16 (first | (refine tr_off (a' := ?_) rfl rfl (by rfl) ?_ ?_; rotate_left 1; (· simp only [Act.put, List.setIfInBounds_toArray, List.set_cons_zero, List.set_cons_succ]; rfl)) | (refine tr_y (v := ?_) (a' := ?_) rfl rfl (by rfl) (fun w' hw' => ?_) ?_ ?_; rotate_left 2; (· first | (refine (run_op_load rfl ?_ (lr1 w' hw')).trans ?_; (· rfl); (· with_reducible rfl)) | (refine (run_op_load rfl ?_ (lr2 w' hw')).trans ?_; (· rfl); (· with_reducible rfl)) | (refine (run_op_load rfl ?_ (lr3 w' hw')).trans ?_; (· rfl); (· with_reducible rfl)) | (go_simp; with_reducible rfl)); (· simp only [Act.put, List.setIfInBounds_toArray, List.set_cons_zero, List.set_cons_succ]; rfl)))
              refine tr_end (NoPanic.normal ?_)
              go_wp2_with fail
              go_ret
              exact ⟨by rw [goodTo_no _ k n hgo hlt]; rfl, hE.trans (hW5.trans ((Ext.refl _).drew.trans hE6))⟩
          · obtain rfl : k = n := by omega
            go_wp2_with fail
            go_ret
            exact ⟨by rw [hgk]; rfl, hE.trans hwr⟩
  · have e : (pg == 0 && (decide (1 ≤ n) && decide (n ≤ 6)) && goodTo t.gs n) = false := by simp [hp]
    rw [e]
    have hp' : (pg == 0) = false := by simpa using hp
    go_enter Tryd.func44, Tryd.ntmps44
    go_upto_region 1 with fail
    rw [← hW]
    clear hW e
    go_wp2_with (go_at_call 59; (with_reducible refine (hpl _).mono ?_); rintro e w1 ⟨rfl, hE1⟩)
    go_ret
    exact ⟨rfl, hE.trans hE1⟩
set_option maxHeartbeats 9000000 in
set_option maxRecDepth 100000 in
theorem verify_any (w : World) (root : List UInt8) (hr : root.length = 32) (t : Tok) (a : Value) (hG : GsV w t.gs a) (hn : t.gs.length ≤ 1000000) (hts : t.ten.size ≤ 1048576) (hid : intOk t.id) (hgs : ∀ g ∈ t.gs, GrFit g) (hm : t.mac.length = 32) (hK : KAt w) (hI : IAt w) :
    Calls Tryd.prog 12 #[.agg (macA root), .agg (tokA t a)] w fun e w' => e = .returned (.int .i64 (verifyG root t)) ∧ Ext w w' := by
  have ha : a.oneCell' = true := by obtain ⟨A, c, rfl, _⟩ := hG; rfl
  have hmd := fun (w' : World) (h : Ext w w') => made_any w' t a (hG.ext h) hn (by omega) (fun g hg => by have := (hgs g hg).p; omega)
  obtain ⟨W, hW, hE, -, -⟩ := box2 w (macA root) (tokA t a) 23 27
  have B1 : Blk W w.heap.size 23 (macA root) := by rw [hW]; exact (Blk.new _ _ _).alloc _
  have B2 : Blk W (w.heap.size + 1) 27 (tokA t a) := by rw [hW]; have := Blk.new (w.alloc (.cells (macA root) 23)) 27 (tokA t a); simpa using this
  have lr1 := fun (w' : World) (h : Ext W w') => load_whole (B1.ext h) 23 _ Tryd.underlying23 rfl (by kernel_rfl)
  have lr2 := fun (w' : World) (h : Ext W w') => load_whole (B2.ext h) 27 _ Tryd.underlying27 rfl (by kernel_rfl)
  have lr3 := fun (w' : World) (h : Ext W w') => load_part (B2.ext h) 3 (macA t.mac) [.string t.ten, .int .i64 t.id, a] [] rfl rfl 25 _ Tryd.underlying25 rfl (by kernel_rfl)
  unfold verifyG
  by_cases hmg : madeG t = true
  · have hfit : TokFit t := ⟨hts, hid, by unfold madeG at hmg; simp at hmg; omega, hgs, hm⟩
    have hen := fun (w' : World) (h : Ext w w') => tend_any w' root t a hr hfit (hK.ext h) (hI.ext h) (hG.ext h)
    have hsm := fun (w' : World) => macSame_any w' (chain root t) t.mac (chAt_len root t _) hm
    have hv : (if madeG t = true ∧ chain root t = t.mac then (0 : Int) else 19) = if decide (chain root t = t.mac) = true then 0 else 19 := by simp [hmg]
    rw [hv]
    rw [hmg] at hmd
    obtain ⟨sv, hsv⟩ : ∃ z, decide (chain root t = t.mac) = z := ⟨_, rfl⟩
    rw [hsv] at hsm ⊢
    generalize macA (chain root t) = MC at *
    generalize macA t.mac = MM at *
    generalize macA root = M at *
    generalize tokA t a = T at *
    clear B1 B2 hv hsv
    have hY := Ext.refl W
    go_enter Tryd.func12, Tryd.ntmps12
    go_upto_region 1 with fail
    rw [← hW]
    clear hW
    have hd0 : Ext W W.drew := (Ext.refl _).drew
    refine wp_region_noPanic ?_
    refine tr_start (.y 0 (.e 1 (.y 2 (.y 3 (.y 4 (.y 5 (.y 7 (.y 8 (.e 6 (.e 9 (.y 10 (.y 11 .nil)))))))))))) (fun w' => Ext W w') (by kernel_rfl) (by as_aux_lemma => kernel_rfl) (fun _ _ _ _ _ h => h) (hd0) ?_
    iterate 1 (first | (refine tr_off (a' := ?_) rfl rfl (by rfl) ?_ ?_; rotate_left 1; (· simp only [Act.put, List.setIfInBounds_toArray, List.set_cons_zero, List.set_cons_succ]; rfl)) | (refine tr_y (v := ?_) (a' := ?_) rfl rfl (by rfl) (fun w' hw' => ?_) ?_ ?_; rotate_left 2; (· first | (refine (run_op_load rfl ?_ (lr1 w' hw')).trans ?_; (· rfl); (· with_reducible rfl)) | (refine (run_op_load rfl ?_ (lr2 w' hw')).trans ?_; (· rfl); (· with_reducible rfl)) | (refine (run_op_load rfl ?_ (lr3 w' hw')).trans ?_; (· rfl); (· with_reducible rfl)) | (go_simp; with_reducible rfl)); (· simp only [Act.put, List.setIfInBounds_toArray, List.set_cons_zero, List.set_cons_succ]; rfl)))
    refine tr_call (args := ?_) rfl Tryd.func44 (by kernel_rfl) rfl (by rfl) rfl rfl ?_ ?_
    rotate_left 1
    · go_simp; rfl
    (with_reducible refine (hmd _ (hE.trans hd0)).mono ?_)
    rintro e w6 ⟨rfl, hE6⟩
    refine ⟨_, _, rfl, hd0.trans hE6, (by simp only [Act.put, List.setIfInBounds_toArray, List.set_cons_zero, List.set_cons_succ]; rfl), ?_⟩
    iterate 6 (first | (refine tr_off (a' := ?_) rfl rfl (by rfl) ?_ ?_; rotate_left 1; (· simp only [Act.put, List.setIfInBounds_toArray, List.set_cons_zero, List.set_cons_succ]; rfl)) | (refine tr_y (v := ?_) (a' := ?_) rfl rfl (by rfl) (fun w' hw' => ?_) ?_ ?_; rotate_left 2; (· first | (refine (run_op_load rfl ?_ (lr1 w' hw')).trans ?_; (· rfl); (· with_reducible rfl)) | (refine (run_op_load rfl ?_ (lr2 w' hw')).trans ?_; (· rfl); (· with_reducible rfl)) | (refine (run_op_load rfl ?_ (lr3 w' hw')).trans ?_; (· rfl); (· with_reducible rfl)) | (go_simp; with_reducible rfl)); (· simp only [Act.put, List.setIfInBounds_toArray, List.set_cons_zero, List.set_cons_succ]; rfl)))
    refine tr_call (args := ?_) rfl Tryd.func46 (by kernel_rfl) rfl (by rfl) rfl rfl ?_ ?_
    rotate_left 1
    · go_simp; rfl
    (with_reducible refine (hen _ (hE.trans (hd0.trans hE6))).mono ?_)
    rintro e w7 ⟨rfl, hE7⟩
    refine ⟨_, _, rfl, hd0.trans (hE6.trans hE7), (by simp only [Act.put, List.setIfInBounds_toArray, List.set_cons_zero, List.set_cons_succ]; rfl), ?_⟩
    refine tr_call (args := ?_) rfl Tryd.func45 (by kernel_rfl) rfl (by rfl) rfl rfl ?_ ?_
    rotate_left 1
    · go_simp; rfl
    (with_reducible refine (hsm _).mono ?_)
    rintro e w8 ⟨rfl, hE8⟩
    refine ⟨_, _, rfl, hd0.trans (hE6.trans (hE7.trans hE8)), (by simp only [Act.put, List.setIfInBounds_toArray, List.set_cons_zero, List.set_cons_succ]; rfl), ?_⟩
    iterate 2 (first | (refine tr_off (a' := ?_) rfl rfl (by rfl) ?_ ?_; rotate_left 1; (· simp only [Act.put, List.setIfInBounds_toArray, List.set_cons_zero, List.set_cons_succ]; rfl)) | (refine tr_y (v := ?_) (a' := ?_) rfl rfl (by rfl) (fun w' hw' => ?_) ?_ ?_; rotate_left 2; (· first | (refine (run_op_load rfl ?_ (lr1 w' hw')).trans ?_; (· rfl); (· with_reducible rfl)) | (refine (run_op_load rfl ?_ (lr2 w' hw')).trans ?_; (· rfl); (· with_reducible rfl)) | (refine (run_op_load rfl ?_ (lr3 w' hw')).trans ?_; (· rfl); (· with_reducible rfl)) | (go_simp; with_reducible rfl)); (· simp only [Act.put, List.setIfInBounds_toArray, List.set_cons_zero, List.set_cons_succ]; rfl)))
    refine tr_end (NoPanic.normal ?_)
    cases sv
    · go_wp2_with fail
      go_ret
      exact ⟨rfl, hE.trans (hd0.trans (hE6.trans (hE7.trans hE8)))⟩
    · go_wp2_with fail
      go_ret
      exact ⟨rfl, hE.trans (hd0.trans (hE6.trans (hE7.trans hE8)))⟩
  · have hmg := eq_false_of_ne_true hmg
    rw [hmg] at hmd
    rw [if_neg (by simp [hmg])]
    generalize macA root = M at *
    generalize macA t.mac = MM at *
    generalize tokA t a = T at *
    clear B1 B2 lr3
    go_enter Tryd.func12, Tryd.ntmps12
    go_upto_region 1 with fail
    rw [← hW]
    clear hW
    refine wp_region_noPanic ?_
    refine tr_start (.y 0 (.e 1 (.y 2 (.y 3 (.y 4 (.y 5 (.y 6 (.y 7 (.y 8 (.y 9 (.y 10 (.y 11 .nil)))))))))))) (fun w' => Ext W w') (by kernel_rfl) (by as_aux_lemma => kernel_rfl) (fun _ _ _ _ _ h => h) ((Ext.refl _).drew) ?_
    iterate 1 (first | (refine tr_off (a' := ?_) rfl rfl (by rfl) ?_ ?_; rotate_left 1; (· simp only [Act.put, List.setIfInBounds_toArray, List.set_cons_zero, List.set_cons_succ]; rfl)) | (refine tr_y (v := ?_) (a' := ?_) rfl rfl (by rfl) (fun w' hw' => ?_) ?_ ?_; rotate_left 2; (· first | (refine (run_op_load rfl ?_ (lr1 w' hw')).trans ?_; (· rfl); (· with_reducible rfl)) | (refine (run_op_load rfl ?_ (lr2 w' hw')).trans ?_; (· rfl); (· with_reducible rfl)) | (refine (run_op_load rfl ?_ (lr3 w' hw')).trans ?_; (· rfl); (· with_reducible rfl)) | (go_simp; with_reducible rfl)); (· simp only [Act.put, List.setIfInBounds_toArray, List.set_cons_zero, List.set_cons_succ]; rfl)))
    refine tr_call (args := ?_) rfl Tryd.func44 (by kernel_rfl) rfl (by rfl) rfl rfl ?_ ?_
    rotate_left 1
    · go_simp; rfl
    (with_reducible refine (hmd _ (hE.trans (Ext.refl _).drew)).mono ?_)
    rintro e w6 ⟨rfl, hE6⟩
    refine ⟨_, _, rfl, (Ext.refl _).drew.trans hE6, (by simp only [Act.put, List.setIfInBounds_toArray, List.set_cons_zero, List.set_cons_succ]; rfl), ?_⟩
    iterate 10 (first | (refine tr_off (a' := ?_) rfl rfl (by rfl) ?_ ?_; rotate_left 1; (· simp only [Act.put, List.setIfInBounds_toArray, List.set_cons_zero, List.set_cons_succ]; rfl)) | (refine tr_y (v := ?_) (a' := ?_) rfl rfl (by rfl) (fun w' hw' => ?_) ?_ ?_; rotate_left 2; (· first | (refine (run_op_load rfl ?_ (lr1 w' hw')).trans ?_; (· rfl); (· with_reducible rfl)) | (refine (run_op_load rfl ?_ (lr2 w' hw')).trans ?_; (· rfl); (· with_reducible rfl)) | (refine (run_op_load rfl ?_ (lr3 w' hw')).trans ?_; (· rfl); (· with_reducible rfl)) | (go_simp; with_reducible rfl)); (· simp only [Act.put, List.setIfInBounds_toArray, List.set_cons_zero, List.set_cons_succ]; rfl)))
    refine tr_end (NoPanic.normal ?_)
    go_wp2_with fail
    go_ret
    exact ⟨rfl, hE.trans ((Ext.refl _).drew.trans hE6)⟩
end Go.Proofs.YtjcpgjnogcmalaaDoor

/-! Tokens by the program: minted, narrowed. -/
namespace Go.Proofs.YtjcpgjnogcmalaaDoor
set_option linter.unusedVariables false
set_option linter.unusedSimpArgs false
open Go.RowKit
/-- A slice of grants of the call's own. -/
theorem gs_own {w : World} {base lo hi : Nat} {v : Value} {l : List Grant} (h : w.ownsRow base 35 4 v l.length (l.flatMap fun x => (grA x).toList)) (hb : lo ≤ base) (hh : w.heap.size ≤ hi) : GsV (only w lo hi) l v := by
  obtain ⟨A, c, rfl, h1, _, h2⟩ := own_only (d := rdGr) (f := fun x => (grA x).toList) (fun _ => rfl) (fun w x => gr_K w x) h hb hh
  exact ⟨A, c, rfl, h1, h2⟩
theorem gs_blk {w : World} {g lo hi : Nat} {T : TypeId} {x : Grant} (B : Blk w g T (grA x)) (h1 : lo ≤ g) (h2 : g < hi) : GsV (only w lo hi) [x] (.slice (some ⟨g, 0, none⟩) 1 1) := by
  refine ⟨_, _, rfl, Nat.le_refl _, rfl, fun _ => ⟨g, 0, rfl, fun i hi' => ⟨(grA x).toList, ?_, fun j u hu => ?_⟩⟩⟩
  · have : i = 0 := by simp at hi'; omega
    subst this
    exact gr_K _ _
  · have hi0 : i = 0 := by simp at hi'; omega
    subst hi0
    rw [show 0 + 0 * rdGr.sz + j = j by omega]
    exact cell_only B h1 h2 (by simpa using hu)
theorem run_buildTok {ev : Operand → Value} {o : Oper} {w : World} {x0 x1 x2 : Operand} {s : ByteArray} {i : Int} {A : Option Addr} {n c : Nat} (ho : o.op = .build 27 #[(0, x0), (1, x1), (2, x2)]) (h0 : ev x0 = .string s) (h1 : ev x1 = .int .i64 i) (h2 : ev x2 = .slice A n c) :
    (execOp ev o).run Tryd.prog w = .ok (.value (.agg (tokA ⟨s, i, [], zMac⟩ (.slice A n c)))) w := by
  unfold execOp
  simp only [ho, h0, h1, h2, List.map_toArray, List.map_cons, List.map_nil]
  kernel_rfl
theorem tokA_gs (s : ByteArray) (i : Int) (l l' : List Grant) (m : List UInt8) (a : Value) : tokA ⟨s, i, l, m⟩ a = tokA ⟨s, i, l', m⟩ a := rfl
theorem tokA_mac (s : ByteArray) (i : Int) (l : List Grant) (m : List UInt8) (a : Value) : tokA ⟨s, i, l, m⟩ a = ([Value.string s, Value.int .i64 i, a] ++ (macA m).toList ++ []).toArray := rfl
theorem tok_ov {w w' : World} {g : Nat} {T : TypeId} {s : ByteArray} {i : Int} {l : List Grant} {m m' : List UInt8} {a : Value} (B : Blk w' g T ([Value.string s, Value.int .i64 i, a] ++ (macA m').toList ++ []).toArray) : Blk w' g T (tokA ⟨s, i, l, m'⟩ a) := B
theorem run_op_bs {P : Program} {ev : Operand → Value} {o : Oper} {w w1 : World} {t : TypeId} {x : Operand} {C v : Value} (ho : o.op = .buildSlice t 1 #[(0, x)]) (hx : ev x = C) (h : (Instr.buildSlice t 1 #[(0, C)]).run P w = .ok v w1) : (execOp ev o).run P w = .ok (.value v) w1 := by
  unfold execOp
  simp [ho, hx, Sem.run_bind, h]
def mintG (root : List UInt8) (ten : ByteArray) (id : Int) (g : Grant) : Tok × Int :=
  if placedG ten id ≠ 0 then (zTok, placedG ten id) else if gChk g ≠ 0 then (zTok, gChk g) else (⟨ten, id, [g], chain root ⟨ten, id, [g], zMac⟩⟩, 0)
def attG (t : Tok) (g : Grant) : Tok × Int :=
  if t.gs.length = 0 then (zTok, 1) else if 6 ≤ t.gs.length then (zTok, 3) else if gChk g ≠ 0 then (zTok, gChk g) else if gNar (lastG t) g = false then (zTok, 25) else (⟨t.ten, t.id, t.gs ++ [g], macB t.mac (gB g)⟩, 0)
/-- What a maker of tokens answers: a token, its grants in memory of the call's own, and an error. -/
def TokP (w : World) (r : Tok × Int) (e : Ending) (w' : World) : Prop := ∃ a, e = .returned (.tuple #[.agg (tokA r.1 a), .int .i64 r.2]) ∧ GsV (only w' w.heap.size w'.heap.size) r.1.gs a ∧ Ext w w'
theorem tokP_zero {w w' : World} {v : Int} (hE : Ext w w') : TokP w (zTok, v) (.returned (.tuple #[.agg #[.string ⟨#[]⟩, .int .i64 0, .slice none 0 0, .int .u8 0, .int .u8 0, .int .u8 0, .int .u8 0, .int .u8 0, .int .u8 0, .int .u8 0, .int .u8 0, .int .u8 0, .int .u8 0, .int .u8 0, .int .u8 0, .int .u8 0, .int .u8 0, .int .u8 0, .int .u8 0, .int .u8 0, .int .u8 0, .int .u8 0, .int .u8 0, .int .u8 0, .int .u8 0, .int .u8 0, .int .u8 0, .int .u8 0, .int .u8 0, .int .u8 0, .int .u8 0, .int .u8 0, .int .u8 0, .int .u8 0, .int .u8 0], .int .i64 v])) w' := ⟨.slice none 0 0, rfl, GsV.nil _, hE⟩
theorem ztok_one : (#[.string ⟨#[]⟩, .int .i64 0, .slice none 0 0, .int .u8 0, .int .u8 0, .int .u8 0, .int .u8 0, .int .u8 0, .int .u8 0, .int .u8 0, .int .u8 0, .int .u8 0, .int .u8 0, .int .u8 0, .int .u8 0, .int .u8 0, .int .u8 0, .int .u8 0, .int .u8 0, .int .u8 0, .int .u8 0, .int .u8 0, .int .u8 0, .int .u8 0, .int .u8 0, .int .u8 0, .int .u8 0, .int .u8 0, .int .u8 0, .int .u8 0, .int .u8 0, .int .u8 0, .int .u8 0, .int .u8 0, .int .u8 0] : Array Value).all (·.oneCell') = true := by kernel_rfl
set_option maxHeartbeats 9000000 in
set_option maxRecDepth 100000 in
theorem mint_any (w : World) (root : List UInt8) (hr : root.length = 32) (ten : ByteArray) (id : Int) (g : Grant) (hts : ten.size ≤ 1048576) (hid : intOk id) (hg : GrFit g) (hK : KAt w) (hI : IAt w) :
    Calls Tryd.prog 25 #[.agg (macA root), .string ten, .int .i64 id, .agg (grA g)] w (TokP w (mintG root ten id g)) := by
  obtain ⟨P, hP⟩ : ∃ P, TokP w (mintG root ten id g) = P := ⟨_, rfl⟩
  rw [hP]
  have HP := Lib.hid hP
  clear hP
  have hpl := fun (w' : World) => placed_any ten id w' (by omega)
  have hck := fun (w' : World) => gchk_any g w' (by have := hg.p; omega)
  obtain ⟨W, hW, hE, -, -, -⟩ := box3 w (macA root) (grA g) #[.string ⟨#[]⟩, .int .i64 0, .slice none 0 0, .int .u8 0, .int .u8 0, .int .u8 0, .int .u8 0, .int .u8 0, .int .u8 0, .int .u8 0, .int .u8 0, .int .u8 0, .int .u8 0, .int .u8 0, .int .u8 0, .int .u8 0, .int .u8 0, .int .u8 0, .int .u8 0, .int .u8 0, .int .u8 0, .int .u8 0, .int .u8 0, .int .u8 0, .int .u8 0, .int .u8 0, .int .u8 0, .int .u8 0, .int .u8 0, .int .u8 0, .int .u8 0, .int .u8 0, .int .u8 0, .int .u8 0, .int .u8 0] 23 35 27
  have B1 : Blk W w.heap.size 23 (macA root) := by rw [hW]; exact ((Blk.new _ _ _).alloc _).alloc _
  have B2 : Blk W (w.heap.size + 1) 35 (grA g) := by rw [hW]; have := Blk.new (w.alloc (.cells (macA root) 23)) 35 (grA g); simpa using this.alloc _
  have B3 : Blk W (w.heap.size + 1 + 1) 27 #[.string ⟨#[]⟩, .int .i64 0, .slice none 0 0, .int .u8 0, .int .u8 0, .int .u8 0, .int .u8 0, .int .u8 0, .int .u8 0, .int .u8 0, .int .u8 0, .int .u8 0, .int .u8 0, .int .u8 0, .int .u8 0, .int .u8 0, .int .u8 0, .int .u8 0, .int .u8 0, .int .u8 0, .int .u8 0, .int .u8 0, .int .u8 0, .int .u8 0, .int .u8 0, .int .u8 0, .int .u8 0, .int .u8 0, .int .u8 0, .int .u8 0, .int .u8 0, .int .u8 0, .int .u8 0, .int .u8 0, .int .u8 0] := by rw [hW]; have := Blk.new ((w.alloc (.cells (macA root) 23)).alloc (.cells (grA g) 35)) 27 #[.string ⟨#[]⟩, .int .i64 0, .slice none 0 0, .int .u8 0, .int .u8 0, .int .u8 0, .int .u8 0, .int .u8 0, .int .u8 0, .int .u8 0, .int .u8 0, .int .u8 0, .int .u8 0, .int .u8 0, .int .u8 0, .int .u8 0, .int .u8 0, .int .u8 0, .int .u8 0, .int .u8 0, .int .u8 0, .int .u8 0, .int .u8 0, .int .u8 0, .int .u8 0, .int .u8 0, .int .u8 0, .int .u8 0, .int .u8 0, .int .u8 0, .int .u8 0, .int .u8 0, .int .u8 0, .int .u8 0, .int .u8 0]; simpa using this
  have ldg := fun (w' : World) (h : Ext W w') => load_whole (B2.ext h) 35 _ Tryd.underlying35 rfl (by kernel_rfl)
  have ldk := fun (w' : World) (h : Ext W w') => load_whole (B1.ext h) 23 _ Tryd.underlying23 rfl (by kernel_rfl)
  obtain ⟨G, hG⟩ : ∃ G, grA g = G := ⟨_, rfl⟩
  obtain ⟨M, hM⟩ : ∃ M, macA root = M := ⟨_, rfl⟩
  have szG : G.size = 4 := by rw [← hG]; rfl
  rw [hG] at hW B2 ldg hck ⊢
  rw [hM] at hW B1 ldk ⊢
  have HG := Lib.hid hG
  have HM := Lib.hid hM
  obtain ⟨pg, hpg⟩ : ∃ z, placedG ten id = z := ⟨_, rfl⟩
  obtain ⟨gc, hgc⟩ : ∃ z, gChk g = z := ⟨_, rfl⟩
  rw [hpg] at hpl
  rw [hgc] at hck
  have HPG := Lib.hid hpg
  have HGC := Lib.hid hgc
  obtain ⟨r0, hr0⟩ : ∃ z, w.heap.size + 1 + 1 = z := ⟨_, rfl⟩
  rw [hr0] at B3
  have hrw : w.heap.size ≤ r0 := by omega
  clear hG hM hpg hgc
  by_cases hp : pg = 0
  · subst hp
    by_cases hc : gc = 0
    · subst hc
      go_enter Tryd.func25, Tryd.ntmps25
      go_upto_region 1 with fail
      rw [← hW]
      try rw [hr0]
      clear hW
      go_upto_region 6 with (first | (go_at_call 59; (with_reducible refine (hpl _).mono ?_); rintro e w1 ⟨rfl, hE1⟩; have lq := ldg w1 hE1) | (refine wpList_load_by rfl rfl ?_ lq ?_; (· rfl)) | (go_at_call 23; (with_reducible refine (hck _).mono ?_); rintro e w2 ⟨rfl, hE2⟩))
      have hE12 := hE1.trans hE2
      have lg2 := ldg w2 hE12
      obtain ⟨ie, hie, hz, hzs, hzb⟩ := info_parts (show (Tryd.prog.info? 35).map (fun i => (i.zero, i.size, i.bytes)) = some (some (.agg #[.int .i64 0, .string ⟨#[]⟩, .bool false, .int .i64 0]), 4, 40) from by kernel_rfl)
      have hbs := run_build1 w2 24 35 G ie _ Tryd.underlying24 hie hz (by rw [hzs, szG]) (by omega) (by omega)
      have e3 : Ext w2 (w2.alloc (.cells G 35)) := (Ext.refl _).alloc _
      have BG := Blk.new w2 35 G
      refine wp_region_lit ?_
      iterate 2 (first | (refine pl_off (a' := ?_) rfl (by rfl) ?_ ?_; rotate_left 1; (· simp only [Act.put, List.setIfInBounds_toArray, List.set_cons_zero, List.set_cons_succ]; rfl)) | (refine pl_y (v := ?_) (a' := ?_) rfl (by rfl) ?_ ?_ ?_; rotate_left 2; (· go_simp; with_reducible rfl); (· simp only [Act.put, List.setIfInBounds_toArray, List.set_cons_zero, List.set_cons_succ]; rfl)))
      refine pl_y (v := ?_) (a' := ?_) rfl (by rfl) ?_ ?_ ?_
      rotate_left 2
      · (refine (run_op_load rfl ?_ (lg2)).trans ?_; (· rfl); (· with_reducible rfl))
      · simp only [Act.put, List.setIfInBounds_toArray, List.set_cons_zero, List.set_cons_succ]; rfl
      refine pl_v (a' := ?_) rfl (by rfl) (run_op_bs rfl rfl hbs) ?_ ?_
      rotate_left 1
      · simp only [Act.put, List.setIfInBounds_toArray, List.set_cons_zero, List.set_cons_succ]; rfl
      clear hbs hie hz hzs hzb
      have hgw : w.heap.size ≤ w2.heap.size := by have := hE.le; have := hE12.le; omega
      have hr2 : r0 < w2.heap.size := (B3.ext hE12).lt
      generalize w2.alloc (.cells G 35) = w3 at *
      generalize w2.heap.size = gb at *
      refine pl_y (a' := ?_) rfl (by rfl) (run_buildTok rfl rfl rfl rfl) ?_ ?_
      rotate_left 1
      · simp only [Act.put, List.setIfInBounds_toArray, List.set_cons_zero, List.set_cons_succ]; rfl
      obtain ⟨T0, hT0⟩ : ∃ T, tokA ⟨ten, id, [], zMac⟩ (.slice (some ⟨gb, 0, none⟩) 1 1) = T := ⟨_, rfl⟩
      have szT : T0.size = 35 := by rw [← hT0]; rfl
      have oneT : T0.all (·.oneCell') = true := by rw [← hT0]; exact one_tok _ _ rfl
      rw [hT0]
      have HT0 := Lib.hid hT0
      clear hT0
      obtain ⟨w4, hst4, BT4, hE4⟩ := box_row w3 27 #[.string ⟨#[]⟩, .int .i64 0, .slice none 0 0, .int .u8 0, .int .u8 0, .int .u8 0, .int .u8 0, .int .u8 0, .int .u8 0, .int .u8 0, .int .u8 0, .int .u8 0, .int .u8 0, .int .u8 0, .int .u8 0, .int .u8 0, .int .u8 0, .int .u8 0, .int .u8 0, .int .u8 0, .int .u8 0, .int .u8 0, .int .u8 0, .int .u8 0, .int .u8 0, .int .u8 0, .int .u8 0, .int .u8 0, .int .u8 0, .int .u8 0, .int .u8 0, .int .u8 0, .int .u8 0, .int .u8 0, .int .u8 0] T0 (by rw [szT]; rfl) (by rw [szT]; kernel_rfl) oneT
      refine pl_v (v := ?_) (w1 := ?_) (a' := ?_) rfl (by rfl) ?_ ?_ ?_
      rotate_left 3
      · go_simp; refine ⟨?_, ?_⟩ <;> with_reducible rfl
      · simp only [Act.put, List.setIfInBounds_toArray, List.set_cons_zero, List.set_cons_succ]; rfl
      have hgt : gb < w3.heap.size := BG.lt
      obtain ⟨tb, htb⟩ : ∃ z, w3.heap.size = z := ⟨_, rfl⟩
      rw [htb] at hst4 BT4 hgt ⊢
      refine pl_store (by rfl) rfl (run_op_store rfl ?_ ?_ hst4) ?_
      · rfl
      · rfl
      refine wpList_nil ?_
      have e4 : Ext W w4 := hE12.trans (e3.trans hE4)
      have BG4 : Blk w4 gb 35 (grA g) := by rw [HG.out]; exact BG.ext hE4
      have hGW : GsV w4 [g] (.slice (some ⟨gb, 0, none⟩) 1 1) := (gs_blk (lo := 0) (hi := w4.heap.size) BG4 (Nat.zero_le _) BG4.lt).mono only_cle
      have hfit : TokFit ⟨ten, id, [g], zMac⟩ := ⟨hts, hid, by simp, fun x hx => by simp at hx; subst hx; exact hg, by rfl⟩
      have hen := tend_any w4 root ⟨ten, id, [g], zMac⟩ _ hr hfit (hK.ext (hE.trans e4)) (hI.ext (hE.trans e4)) hGW
      rw [tokA_gs ten id [g] [] zMac, HT0.out, HM.out] at hen
      have lk := ldk w4 e4
      have lt4 := load_whole BT4 27 _ Tryd.underlying27 rfl (by rw [szT]; kernel_rfl)
      obtain ⟨ch, hch⟩ : ∃ z, chain root ⟨ten, id, [g], zMac⟩ = z := ⟨_, rfl⟩
      rw [hch] at hen
      have HCH := Lib.hid hch
      obtain ⟨CC, hCC⟩ : ∃ C, macA ch = C := ⟨_, rfl⟩
      have szC : CC.size = 32 := by rw [← hCC]; exact macA_size _
      have oneC : CC.all (·.oneCell') = true := by rw [← hCC]; exact macA_one _
      rw [hCC] at hen
      have HCC := Lib.hid hCC
      clear hCC hch
      go_upto_region 7 with fail
      refine wp_region_lit ?_
      refine pl_y (v := ?_) (a' := ?_) rfl (by rfl) ?_ ?_ ?_
      rotate_left 2
      · (refine (run_op_load rfl ?_ (lk)).trans ?_; (· rfl); (· with_reducible rfl))
      · simp only [Act.put, List.setIfInBounds_toArray, List.set_cons_zero, List.set_cons_succ]; rfl
      refine pl_y (v := ?_) (a' := ?_) rfl (by rfl) ?_ ?_ ?_
      rotate_left 2
      · (refine (run_op_load rfl ?_ (lt4)).trans ?_; (· rfl); (· with_reducible rfl))
      · simp only [Act.put, List.setIfInBounds_toArray, List.set_cons_zero, List.set_cons_succ]; rfl
      refine pl_call (args := ?_) Tryd.func46 (by kernel_rfl) rfl (by rfl) rfl rfl ?_ ?_
      rotate_left 1
      · go_simp; with_reducible rfl
      (with_reducible refine (hen).mono ?_)
      rintro e w5 ⟨rfl, hE5⟩
      refine ⟨_, _, rfl, (by simp only [Act.put, List.setIfInBounds_toArray, List.set_cons_zero, List.set_cons_succ]; rfl), ?_⟩
      iterate 1 (first | (refine pl_off (a' := ?_) rfl (by rfl) ?_ ?_; rotate_left 1; (· simp only [Act.put, List.setIfInBounds_toArray, List.set_cons_zero, List.set_cons_succ]; rfl)) | (refine pl_y (v := ?_) (a' := ?_) rfl (by rfl) ?_ ?_ ?_; rotate_left 2; (· go_simp; with_reducible rfl); (· simp only [Act.put, List.setIfInBounds_toArray, List.set_cons_zero, List.set_cons_succ]; rfl)))
      obtain ⟨w6, hst6, BT6, hX6⟩ := store_part (BT4.ext hE5) 3 CC [Value.string ten, Value.int .i64 id, .slice (some ⟨gb, 0, none⟩) 1 1] (macA zMac).toList [] (by rw [← HT0.out]; rfl) rfl (by rw [szC]; rfl) 25 (by rw [szC]; kernel_rfl) oneC
      refine pl_store (by rfl) rfl (run_op_store rfl ?_ ?_ hst6) ?_
      · rfl
      · rfl
      refine wpList_nil ?_
      rw [← HCC.out] at BT6
      have BT6 : Blk w6 tb 27 (tokA ⟨ten, id, [g], ch⟩ (.slice (some ⟨gb, 0, none⟩) 1 1)) := BT6
      obtain ⟨T1, hT1⟩ : ∃ T, tokA ⟨ten, id, [g], ch⟩ (.slice (some ⟨gb, 0, none⟩) 1 1) = T := ⟨_, rfl⟩
      have szT1 : T1.size = 35 := by rw [← hT1]; rfl
      have oneT1 : T1.all (·.oneCell') = true := by rw [← hT1]; exact one_tok _ _ rfl
      rw [hT1] at BT6
      have HT1 := Lib.hid hT1
      clear hT1 hst6 hst4 hen lk lt4
      have lt6 := load_whole BT6 27 _ Tryd.underlying27 rfl (by rw [szT1]; kernel_rfl)
      have hX6 : Exc tb (tb + 1) w5 w6 := hX6
      have B36 : Blk w6 r0 27 #[.string ⟨#[]⟩, .int .i64 0, .slice none 0 0, .int .u8 0, .int .u8 0, .int .u8 0, .int .u8 0, .int .u8 0, .int .u8 0, .int .u8 0, .int .u8 0, .int .u8 0, .int .u8 0, .int .u8 0, .int .u8 0, .int .u8 0, .int .u8 0, .int .u8 0, .int .u8 0, .int .u8 0, .int .u8 0, .int .u8 0, .int .u8 0, .int .u8 0, .int .u8 0, .int .u8 0, .int .u8 0, .int .u8 0, .int .u8 0, .int .u8 0, .int .u8 0, .int .u8 0, .int .u8 0, .int .u8 0, .int .u8 0] := hX6.blk (B3.ext (e4.trans hE5)) (.inl (by omega))
      obtain ⟨w7, hst7, B7, hX7⟩ := over_row (C := T1) B36 (by rw [szT1]; rfl) (by rw [szT1]; kernel_rfl) oneT1
      have BG7 : Blk w7 gb 35 (grA g) := hX7.blk (hX6.blk (BG4.ext hE5) (.inl hgt)) (.inr (by omega))
      go_upto_region 8 with fail
      refine wp_region_lit ?_
      refine pl_y (v := ?_) (a' := ?_) rfl (by rfl) ?_ ?_ ?_
      rotate_left 2
      · (refine (run_op_load rfl ?_ (lt6)).trans ?_; (· rfl); (· with_reducible rfl))
      · simp only [Act.put, List.setIfInBounds_toArray, List.set_cons_zero, List.set_cons_succ]; rfl
      refine pl_store (by rfl) rfl (run_op_store rfl ?_ ?_ hst7) ?_
      · rfl
      · rfl
      iterate 1 (first | (refine pl_off (a' := ?_) rfl (by rfl) ?_ ?_; rotate_left 1; (· simp only [Act.put, List.setIfInBounds_toArray, List.set_cons_zero, List.set_cons_succ]; rfl)) | (refine pl_y (v := ?_) (a' := ?_) rfl (by rfl) ?_ ?_ ?_; rotate_left 2; (· go_simp; with_reducible rfl); (· simp only [Act.put, List.setIfInBounds_toArray, List.set_cons_zero, List.set_cons_succ]; rfl)))
      refine wpList_nil ?_
      go_wp2_with fail
      refine bodyPost_ret (v := .tuple #[.agg T1, .int .i64 0]) (results_row_tmp (fn := Tryd.f25) rfl _ w7 r0 _ _ _ _ rfl B7 Tryd.underlying27 rfl (by rw [szT1]; kernel_rfl) rfl) rfl ?_
      rw [← HP.out]
      unfold mintG
      rw [HPG.out, HGC.out, if_neg (by simp), if_neg (by simp), HCH.out]
      exact ⟨_, by rw [← HT1.out], gs_blk BG7 hgw BG7.lt, Exc.ext (Exc.ext (hE.trans (e4.trans hE5)) hX6 (by omega)) hX7 hrw⟩
    · have hc1 : (gc == 0) = false := by simpa using hc
      have hc2 : (gc != 0) = true := by simpa using hc
      go_enter Tryd.func25, Tryd.ntmps25
      go_upto_region 1 with fail
      rw [← hW]
      try rw [hr0]
      clear hW
      go_upto_region 5 with (first | (go_at_call 59; (with_reducible refine (hpl _).mono ?_); rintro e w1 ⟨rfl, hE1⟩; have lq := ldg w1 hE1) | (refine wpList_load_by rfl rfl ?_ lq ?_; (· rfl)) | (go_at_call 23; (with_reducible refine (hck _).mono ?_); rintro e w2 ⟨rfl, hE2⟩))
      obtain ⟨wz, hsz, Bz, hXz⟩ := over_row (C := #[.string ⟨#[]⟩, .int .i64 0, .slice none 0 0, .int .u8 0, .int .u8 0, .int .u8 0, .int .u8 0, .int .u8 0, .int .u8 0, .int .u8 0, .int .u8 0, .int .u8 0, .int .u8 0, .int .u8 0, .int .u8 0, .int .u8 0, .int .u8 0, .int .u8 0, .int .u8 0, .int .u8 0, .int .u8 0, .int .u8 0, .int .u8 0, .int .u8 0, .int .u8 0, .int .u8 0, .int .u8 0, .int .u8 0, .int .u8 0, .int .u8 0, .int .u8 0, .int .u8 0, .int .u8 0, .int .u8 0, .int .u8 0]) (B3.ext (hE1.trans hE2)) rfl (by kernel_rfl) ztok_one
      go_upto_region 5 with fail
      refine wp_region_lit ?_
      iterate 2 (first | (refine pl_off (a' := ?_) rfl (by rfl) ?_ ?_; rotate_left 1; (· simp only [Act.put, List.setIfInBounds_toArray, List.set_cons_zero, List.set_cons_succ]; rfl)) | (refine pl_y (v := ?_) (a' := ?_) rfl (by rfl) ?_ ?_ ?_; rotate_left 2; (· go_simp; with_reducible rfl); (· simp only [Act.put, List.setIfInBounds_toArray, List.set_cons_zero, List.set_cons_succ]; rfl)))
      refine pl_store (by rfl) rfl (run_op_store rfl ?_ ?_ hsz) ?_
      · rfl
      · rfl
      iterate 1 (first | (refine pl_off (a' := ?_) rfl (by rfl) ?_ ?_; rotate_left 1; (· simp only [Act.put, List.setIfInBounds_toArray, List.set_cons_zero, List.set_cons_succ]; rfl)) | (refine pl_y (v := ?_) (a' := ?_) rfl (by rfl) ?_ ?_ ?_; rotate_left 2; (· go_simp; with_reducible rfl); (· simp only [Act.put, List.setIfInBounds_toArray, List.set_cons_zero, List.set_cons_succ]; rfl)))
      refine wpList_nil ?_
      go_wp2_with fail
      refine bodyPost_ret (v := .tuple #[.agg #[.string ⟨#[]⟩, .int .i64 0, .slice none 0 0, .int .u8 0, .int .u8 0, .int .u8 0, .int .u8 0, .int .u8 0, .int .u8 0, .int .u8 0, .int .u8 0, .int .u8 0, .int .u8 0, .int .u8 0, .int .u8 0, .int .u8 0, .int .u8 0, .int .u8 0, .int .u8 0, .int .u8 0, .int .u8 0, .int .u8 0, .int .u8 0, .int .u8 0, .int .u8 0, .int .u8 0, .int .u8 0, .int .u8 0, .int .u8 0, .int .u8 0, .int .u8 0, .int .u8 0, .int .u8 0, .int .u8 0, .int .u8 0], .int .i64 gc]) (results_row_tmp (fn := Tryd.f25) rfl _ wz r0 _ _ _ _ rfl Bz Tryd.underlying27 rfl (by kernel_rfl) rfl) rfl ?_
      rw [← HP.out]
      unfold mintG
      rw [HPG.out, HGC.out, if_neg (by simp), if_pos hc]
      exact tokP_zero (Exc.ext (hE.trans (hE1.trans hE2)) hXz hrw)
  · have hp1 : (pg == 0) = false := by simpa using hp
    have hp2 : (pg != 0) = true := by simpa using hp
    go_enter Tryd.func25, Tryd.ntmps25
    go_upto_region 1 with fail
    rw [← hW]
    try rw [hr0]
    clear hW
    go_upto_region 5 with (first | (go_at_call 59; (with_reducible refine (hpl _).mono ?_); rintro e w1 ⟨rfl, hE1⟩))
    obtain ⟨wz, hsz, Bz, hXz⟩ := over_row (C := #[.string ⟨#[]⟩, .int .i64 0, .slice none 0 0, .int .u8 0, .int .u8 0, .int .u8 0, .int .u8 0, .int .u8 0, .int .u8 0, .int .u8 0, .int .u8 0, .int .u8 0, .int .u8 0, .int .u8 0, .int .u8 0, .int .u8 0, .int .u8 0, .int .u8 0, .int .u8 0, .int .u8 0, .int .u8 0, .int .u8 0, .int .u8 0, .int .u8 0, .int .u8 0, .int .u8 0, .int .u8 0, .int .u8 0, .int .u8 0, .int .u8 0, .int .u8 0, .int .u8 0, .int .u8 0, .int .u8 0, .int .u8 0]) (B3.ext hE1) rfl (by kernel_rfl) ztok_one
    go_upto_region 5 with fail
    refine wp_region_lit ?_
    iterate 2 (first | (refine pl_off (a' := ?_) rfl (by rfl) ?_ ?_; rotate_left 1; (· simp only [Act.put, List.setIfInBounds_toArray, List.set_cons_zero, List.set_cons_succ]; rfl)) | (refine pl_y (v := ?_) (a' := ?_) rfl (by rfl) ?_ ?_ ?_; rotate_left 2; (· go_simp; with_reducible rfl); (· simp only [Act.put, List.setIfInBounds_toArray, List.set_cons_zero, List.set_cons_succ]; rfl)))
    refine pl_store (by rfl) rfl (run_op_store rfl ?_ ?_ hsz) ?_
    · rfl
    · rfl
    iterate 1 (first | (refine pl_off (a' := ?_) rfl (by rfl) ?_ ?_; rotate_left 1; (· simp only [Act.put, List.setIfInBounds_toArray, List.set_cons_zero, List.set_cons_succ]; rfl)) | (refine pl_y (v := ?_) (a' := ?_) rfl (by rfl) ?_ ?_ ?_; rotate_left 2; (· go_simp; with_reducible rfl); (· simp only [Act.put, List.setIfInBounds_toArray, List.set_cons_zero, List.set_cons_succ]; rfl)))
    refine wpList_nil ?_
    go_wp2_with fail
    refine bodyPost_ret (v := .tuple #[.agg #[.string ⟨#[]⟩, .int .i64 0, .slice none 0 0, .int .u8 0, .int .u8 0, .int .u8 0, .int .u8 0, .int .u8 0, .int .u8 0, .int .u8 0, .int .u8 0, .int .u8 0, .int .u8 0, .int .u8 0, .int .u8 0, .int .u8 0, .int .u8 0, .int .u8 0, .int .u8 0, .int .u8 0, .int .u8 0, .int .u8 0, .int .u8 0, .int .u8 0, .int .u8 0, .int .u8 0, .int .u8 0, .int .u8 0, .int .u8 0, .int .u8 0, .int .u8 0, .int .u8 0, .int .u8 0, .int .u8 0, .int .u8 0], .int .i64 pg]) (results_row_tmp (fn := Tryd.f25) rfl _ wz r0 _ _ _ _ rfl Bz Tryd.underlying27 rfl (by kernel_rfl) rfl) rfl ?_
    rw [← HP.out]
    unfold mintG
    rw [HPG.out, if_pos hp]
    exact tokP_zero (Exc.ext (hE.trans hE1) hXz hrw)
end Go.Proofs.YtjcpgjnogcmalaaDoor

/-! Tokens by the program: narrowed. -/
namespace Go.Proofs.YtjcpgjnogcmalaaDoor
set_option linter.unusedVariables false
set_option linter.unusedSimpArgs false
open Go.RowKit
def OwnG (B : Nat) (w : World) (v : Value) (l : List Grant) : Prop := w.ownsRow B 35 4 v l.length (l.flatMap fun x => (grA x).toList)
theorem OwnG.ext {B : Nat} {w w' : World} {v : Value} {l : List Grant} (h : OwnG B w v l) (e : Ext w w') : OwnG B w' v l := own_ext h e
theorem OwnG.exc {B lo hi : Nat} {w w' : World} {v : Value} {l : List Grant} (h : OwnG B w v l) (e : Exc lo hi w w') (hb : hi ≤ B) : OwnG B w' v l := own_exc h e hb
theorem OwnG.gs {B lo : Nat} {w : World} {v : Value} {l : List Grant} (h : OwnG B w v l) (hb : lo ≤ B) : GsV (only w lo w.heap.size) l v := gs_own h hb (Nat.le_refl _)
theorem blk_cells {w : World} {g : Nat} {T : TypeId} {C : Array Value} {n : Nat} (B : Blk w g T C) (h : C.size = n) : Cells w (some ⟨g, 0, none⟩) 1 n C.toList :=
  ⟨by simp [h], (fun h => by cases h), fun ad h j u hu => by
    cases h
    rw [Addr.add_lit, Nat.zero_add]
    exact B.cell j (by simpa using hu)⟩
set_option maxHeartbeats 9000000 in
set_option maxRecDepth 100000 in
theorem gclone_any (w : World) (A : Option Addr) (c : Nat) (xs : List Grant) (hS : rdGr.Sl w A xs.length xs) (h0 : 0 < xs.length) (hn : xs.length ≤ 1000) :
    Calls Tryd.prog 60 #[.slice A xs.length c] w fun e w' => ∃ v, e = .returned v ∧ OwnG w.heap.size w' v xs ∧ Ext w w' := by
  obtain ⟨b, o, rfl⟩ := el_addr hS 0 h0
  have hcl := sl_cellsOf (f := fun x => (grA x).toList) (fun _ _ _ h => gr_cells h) (fun _ => rfl) hS
  have q : ∀ (w : World) (a : Option Addr) (n c n' c' : Nat), (binOp .eql 24 (.slice a n c) (.slice none n' c')).run Tryd.prog w = .ok (.bool a.isNone) w := fun w a n c n' c' => Lib.run_eql_slice_nil w _ _ a n c n' c' Tryd.underlying24
  have h1 : ∀ u ∈ xs.flatMap (fun x => (grA x).toList), u.oneCell' = true := by
    intro u hu
    obtain ⟨x, _, hx⟩ := List.mem_flatMap.1 hu
    exact one_gr x u hx
  unfold OwnG
  obtain ⟨n, hln⟩ : ∃ n, xs.length = n := ⟨_, rfl⟩
  rw [hln] at hcl hn ⊢
  generalize xs.flatMap (fun x => (grA x).toList) = L at *
  clear hS hln h0
  have eA : Ext w (w.alloc (.cells #[] 35)) := (Ext.refl _).alloc _
  have ho : (w.alloc (.cells #[] 35)).ownsRow w.heap.size 35 4 (.slice (some ⟨w.heap.size, 0, none⟩) 0 0) 0 [] := World.ownsRow_made w #[] 0 (Nat.le_refl _) (Nat.zero_le _) rfl
  have hcl' : Cells (w.alloc (.cells #[] 35)) (some ⟨b, o, none⟩) n 4 L := ⟨hcl.1, hcl.2.1, fun ad h j u hu => eA.cellk (hcl.2.2 ad h j u hu)⟩
  go_enter Tryd.func60, Tryd.ntmps60
  go_wp2_with (at_builtin; refine wpList_append_cells (news := L) rfl elt_Grants (.tmp 5) (.tmp 6) rfl ho rfl rfl hcl' h1 ?c2 ?c3 ?c4 ?_)
  case c2 => unfold maxLen; omega
  case c3 => omega
  case c4 => simp
  intro v' w1 hown' hgrow
  have hE := grown_ext2 eA ho hgrow (Nat.le_refl _)
  go_wp2_with fail
  go_ret
  exact ⟨v', rfl, by simpa using hown', hE⟩
set_option maxHeartbeats 9000000 in
set_option maxRecDepth 100000 in
theorem att_any (w : World) (t : Tok) (a : Value) (hG : GsV w t.gs a) (hn : t.gs.length ≤ 1000000) (hts : t.mac.length = 32) (hgs : ∀ g ∈ t.gs, GrFit g) (g : Grant) (hg : GrFit g) (hK : KAt w) (hI : IAt w) :
    Calls Tryd.prog 26 #[.agg (tokA t a), .agg (grA g)] w (TokP w (attG t g)) := by
  obtain ⟨P, hP⟩ : ∃ P, TokP w (attG t g) = P := ⟨_, rfl⟩
  rw [hP]
  have HP := Lib.hid hP
  clear hP
  have hck := fun (w' : World) => gchk_any g w' (by have := hg.p; omega)
  have hls := fun (w' : World) (h : Ext w w') => last_any w' t a (hG.ext h) hn
  have hna := fun (w' : World) => gnar_any (lastG t) g w'
  have hby := fun (w' : World) => bytesOfL (Buf.nil w') w'.heap.size (Nat.le_refl _) (by omega) g hg
  obtain ⟨A, c, rfl, hc, hS⟩ := hG
  obtain ⟨n, hln⟩ : ∃ n, t.gs.length = n := ⟨_, rfl⟩
  have HL := Lib.hid hln
  rw [hln] at hls hn ⊢
  obtain ⟨W, hW, hE, bx, -, -⟩ := box3 w (tokA t (.slice A n c)) (grA g) #[.string ⟨#[]⟩, .int .i64 0, .slice none 0 0, .int .u8 0, .int .u8 0, .int .u8 0, .int .u8 0, .int .u8 0, .int .u8 0, .int .u8 0, .int .u8 0, .int .u8 0, .int .u8 0, .int .u8 0, .int .u8 0, .int .u8 0, .int .u8 0, .int .u8 0, .int .u8 0, .int .u8 0, .int .u8 0, .int .u8 0, .int .u8 0, .int .u8 0, .int .u8 0, .int .u8 0, .int .u8 0, .int .u8 0, .int .u8 0, .int .u8 0, .int .u8 0, .int .u8 0, .int .u8 0, .int .u8 0, .int .u8 0] 27 35 27
  have B1 : Blk W w.heap.size 27 (tokA t (.slice A n c)) := by rw [hW]; exact ((Blk.new _ _ _).alloc _).alloc _
  have B2 : Blk W (w.heap.size + 1) 35 (grA g) := by rw [hW]; have := Blk.new (w.alloc (.cells (tokA t (.slice A n c)) 27)) 35 (grA g); simpa using this.alloc _
  have B3 : Blk W (w.heap.size + 1 + 1) 27 #[.string ⟨#[]⟩, .int .i64 0, .slice none 0 0, .int .u8 0, .int .u8 0, .int .u8 0, .int .u8 0, .int .u8 0, .int .u8 0, .int .u8 0, .int .u8 0, .int .u8 0, .int .u8 0, .int .u8 0, .int .u8 0, .int .u8 0, .int .u8 0, .int .u8 0, .int .u8 0, .int .u8 0, .int .u8 0, .int .u8 0, .int .u8 0, .int .u8 0, .int .u8 0, .int .u8 0, .int .u8 0, .int .u8 0, .int .u8 0, .int .u8 0, .int .u8 0, .int .u8 0, .int .u8 0, .int .u8 0, .int .u8 0] := by rw [hW]; have := Blk.new ((w.alloc (.cells (tokA t (.slice A n c)) 27)).alloc (.cells (grA g) 35)) 27 #[.string ⟨#[]⟩, .int .i64 0, .slice none 0 0, .int .u8 0, .int .u8 0, .int .u8 0, .int .u8 0, .int .u8 0, .int .u8 0, .int .u8 0, .int .u8 0, .int .u8 0, .int .u8 0, .int .u8 0, .int .u8 0, .int .u8 0, .int .u8 0, .int .u8 0, .int .u8 0, .int .u8 0, .int .u8 0, .int .u8 0, .int .u8 0, .int .u8 0, .int .u8 0, .int .u8 0, .int .u8 0, .int .u8 0, .int .u8 0, .int .u8 0, .int .u8 0, .int .u8 0, .int .u8 0, .int .u8 0, .int .u8 0]; simpa using this
  have lr1 := fun (w' : World) (h : Ext W w') => load_whole (B1.ext h) 27 _ Tryd.underlying27 rfl (by kernel_rfl)
  have lr2 := fun (w' : World) (h : Ext W w') => load_whole (B2.ext h) 35 _ Tryd.underlying35 rfl (by kernel_rfl)
  have x2 : W.cell? ⟨w.heap.size, 2, none⟩ = some (.slice A n c) := bx 2 _ rfl
  have xr2 := fun (w' : World) (h : Ext W w') => h.cellk x2
  obtain ⟨G, hGG⟩ : ∃ G, grA g = G := ⟨_, rfl⟩
  obtain ⟨T, hT⟩ : ∃ T, tokA t (.slice A n c) = T := ⟨_, rfl⟩
  obtain ⟨GL, hGL⟩ : ∃ G, grA (lastG t) = G := ⟨_, rfl⟩
  have szG : G.size = 4 := by rw [← hGG]; rfl
  have oneG : G.all (·.oneCell') = true := by rw [← hGG]; exact grA_one _
  rw [hGG] at hW B2 lr2 hck hna hby ⊢
  rw [hT] at hW B1 lr1 hls ⊢
  rw [hGL] at hls hna
  have HG := Lib.hid hGG
  have HT := Lib.hid hT
  obtain ⟨gc, hgc⟩ : ∃ z, gChk g = z := ⟨_, rfl⟩
  rw [hgc] at hck
  have HGC := Lib.hid hgc
  obtain ⟨gn, hgn⟩ : ∃ z, gNar (lastG t) g = z := ⟨_, rfl⟩
  rw [hgn] at hna
  have HGN := Lib.hid hgn
  obtain ⟨r0, hr0⟩ : ∃ z, w.heap.size + 1 + 1 = z := ⟨_, rfl⟩
  rw [hr0] at B3
  have hrw : w.heap.size ≤ r0 := by omega
  clear hGG hT hgc hgn hln hGL bx
  by_cases h0 : n = 0
  · subst h0
    go_enter Tryd.func26, Tryd.ntmps26
    go_upto_region 1 with fail
    rw [← hW]
    try rw [hr0]
    clear hW
    obtain ⟨wz, hsz, Bz, hXz⟩ := over_row (C := #[.string ⟨#[]⟩, .int .i64 0, .slice none 0 0, .int .u8 0, .int .u8 0, .int .u8 0, .int .u8 0, .int .u8 0, .int .u8 0, .int .u8 0, .int .u8 0, .int .u8 0, .int .u8 0, .int .u8 0, .int .u8 0, .int .u8 0, .int .u8 0, .int .u8 0, .int .u8 0, .int .u8 0, .int .u8 0, .int .u8 0, .int .u8 0, .int .u8 0, .int .u8 0, .int .u8 0, .int .u8 0, .int .u8 0, .int .u8 0, .int .u8 0, .int .u8 0, .int .u8 0, .int .u8 0, .int .u8 0, .int .u8 0]) (B3.ext (Ext.refl _)) rfl (by kernel_rfl) ztok_one
    go_upto_region 3 with fail
    refine wp_region_lit ?_
    iterate 1 (first | (refine pl_off (a' := ?_) rfl (by rfl) ?_ ?_; rotate_left 1; (· simp only [Act.put, List.setIfInBounds_toArray, List.set_cons_zero, List.set_cons_succ]; rfl)) | (refine pl_y (v := ?_) (a' := ?_) rfl (by rfl) ?_ ?_ ?_; rotate_left 2; (· go_simp; with_reducible rfl); (· simp only [Act.put, List.setIfInBounds_toArray, List.set_cons_zero, List.set_cons_succ]; rfl)))
    refine pl_store (by rfl) rfl (run_op_store rfl ?_ ?_ hsz) ?_
    · rfl
    · rfl
    iterate 1 (first | (refine pl_off (a' := ?_) rfl (by rfl) ?_ ?_; rotate_left 1; (· simp only [Act.put, List.setIfInBounds_toArray, List.set_cons_zero, List.set_cons_succ]; rfl)) | (refine pl_y (v := ?_) (a' := ?_) rfl (by rfl) ?_ ?_ ?_; rotate_left 2; (· go_simp; with_reducible rfl); (· simp only [Act.put, List.setIfInBounds_toArray, List.set_cons_zero, List.set_cons_succ]; rfl)))
    refine wpList_nil ?_
    go_wp2_with fail
    refine bodyPost_ret (v := .tuple #[.agg #[.string ⟨#[]⟩, .int .i64 0, .slice none 0 0, .int .u8 0, .int .u8 0, .int .u8 0, .int .u8 0, .int .u8 0, .int .u8 0, .int .u8 0, .int .u8 0, .int .u8 0, .int .u8 0, .int .u8 0, .int .u8 0, .int .u8 0, .int .u8 0, .int .u8 0, .int .u8 0, .int .u8 0, .int .u8 0, .int .u8 0, .int .u8 0, .int .u8 0, .int .u8 0, .int .u8 0, .int .u8 0, .int .u8 0, .int .u8 0, .int .u8 0, .int .u8 0, .int .u8 0, .int .u8 0, .int .u8 0, .int .u8 0], .int .i64 1]) (results_row_tmp (fn := Tryd.f26) rfl _ wz r0 _ _ _ _ rfl Bz Tryd.underlying27 rfl (by kernel_rfl) rfl) rfl ?_
    rw [← HP.out]
    unfold attG
    rw [HL.out, if_pos rfl]
    exact tokP_zero (Exc.ext hE hXz hrw)
  · have hz : ((n : Int) == 0) = false := by simp; omega
    have hz' : (n == 0) = false := by simpa using h0
    have d0 : decide ((n : Int) = 0) = false := decide_eq_false (by omega)
    by_cases h6 : 6 ≤ n
    · have d6 : decide ((6 : Int) ≤ (n : Int)) = true := decide_eq_true (by omega)
      go_enter Tryd.func26, Tryd.ntmps26
      go_upto_region 1 with fail
      rw [← hW]
      try rw [hr0]
      clear hW
      obtain ⟨wz, hsz, Bz, hXz⟩ := over_row (C := #[.string ⟨#[]⟩, .int .i64 0, .slice none 0 0, .int .u8 0, .int .u8 0, .int .u8 0, .int .u8 0, .int .u8 0, .int .u8 0, .int .u8 0, .int .u8 0, .int .u8 0, .int .u8 0, .int .u8 0, .int .u8 0, .int .u8 0, .int .u8 0, .int .u8 0, .int .u8 0, .int .u8 0, .int .u8 0, .int .u8 0, .int .u8 0, .int .u8 0, .int .u8 0, .int .u8 0, .int .u8 0, .int .u8 0, .int .u8 0, .int .u8 0, .int .u8 0, .int .u8 0, .int .u8 0, .int .u8 0, .int .u8 0]) (B3.ext (Ext.refl _)) rfl (by kernel_rfl) ztok_one
      go_upto_region 5 with fail
      refine wp_region_lit ?_
      iterate 1 (first | (refine pl_off (a' := ?_) rfl (by rfl) ?_ ?_; rotate_left 1; (· simp only [Act.put, List.setIfInBounds_toArray, List.set_cons_zero, List.set_cons_succ]; rfl)) | (refine pl_y (v := ?_) (a' := ?_) rfl (by rfl) ?_ ?_ ?_; rotate_left 2; (· go_simp; with_reducible rfl); (· simp only [Act.put, List.setIfInBounds_toArray, List.set_cons_zero, List.set_cons_succ]; rfl)))
      refine pl_store (by rfl) rfl (run_op_store rfl ?_ ?_ hsz) ?_
      · rfl
      · rfl
      iterate 1 (first | (refine pl_off (a' := ?_) rfl (by rfl) ?_ ?_; rotate_left 1; (· simp only [Act.put, List.setIfInBounds_toArray, List.set_cons_zero, List.set_cons_succ]; rfl)) | (refine pl_y (v := ?_) (a' := ?_) rfl (by rfl) ?_ ?_ ?_; rotate_left 2; (· go_simp; with_reducible rfl); (· simp only [Act.put, List.setIfInBounds_toArray, List.set_cons_zero, List.set_cons_succ]; rfl)))
      refine wpList_nil ?_
      go_wp2_with fail
      refine bodyPost_ret (v := .tuple #[.agg #[.string ⟨#[]⟩, .int .i64 0, .slice none 0 0, .int .u8 0, .int .u8 0, .int .u8 0, .int .u8 0, .int .u8 0, .int .u8 0, .int .u8 0, .int .u8 0, .int .u8 0, .int .u8 0, .int .u8 0, .int .u8 0, .int .u8 0, .int .u8 0, .int .u8 0, .int .u8 0, .int .u8 0, .int .u8 0, .int .u8 0, .int .u8 0, .int .u8 0, .int .u8 0, .int .u8 0, .int .u8 0, .int .u8 0, .int .u8 0, .int .u8 0, .int .u8 0, .int .u8 0, .int .u8 0, .int .u8 0, .int .u8 0], .int .i64 3]) (results_row_tmp (fn := Tryd.f26) rfl _ wz r0 _ _ _ _ rfl Bz Tryd.underlying27 rfl (by kernel_rfl) rfl) rfl ?_
      rw [← HP.out]
      unfold attG
      rw [HL.out, if_neg h0, if_pos h6]
      exact tokP_zero (Exc.ext hE hXz hrw)
    · have d6 : decide ((6 : Int) ≤ (n : Int)) = false := decide_eq_false (by omega)
      have lg := lr2 W (Ext.refl _)
      by_cases hc0 : gc = 0
      · subst hc0
        go_enter Tryd.func26, Tryd.ntmps26
        go_upto_region 1 with fail
        rw [← hW]
        try rw [hr0]
        clear hW
        go_upto_region 9 with (first | (refine wpList_load_by rfl rfl ?_ lg ?_; (· rfl)) | (go_at_call 23; (with_reducible refine (hck _).mono ?_); rintro e w2 ⟨rfl, hE2⟩))
        have hd0 : Ext W w2.drew := hE2.drew
        refine wp_region_noPanic ?_
        refine tr_start (.y 0 (.y 2 (.e 1 (.e 3 (.y 4 .nil))))) (fun w' => Ext W w') (by kernel_rfl) (by as_aux_lemma => kernel_rfl) (fun _ _ _ _ _ h => h) (hd0) ?_
        iterate 2 (first | (refine tr_off (a' := ?_) rfl rfl (by rfl) ?_ ?_; rotate_left 1; (· simp only [Act.put, List.setIfInBounds_toArray, List.set_cons_zero, List.set_cons_succ]; rfl)) | (refine tr_y (v := ?_) (a' := ?_) rfl rfl (by rfl) (fun w' hw' => ?_) ?_ ?_; rotate_left 2; (· first | (refine (run_op_load rfl ?_ (lr1 w' hw')).trans ?_; (· rfl); (· with_reducible rfl)) | (refine (run_op_load rfl ?_ (lr2 w' hw')).trans ?_; (· rfl); (· with_reducible rfl)) | (refine (run_op_load rfl ?_ (lr3 w' hw')).trans ?_; (· rfl); (· with_reducible rfl)) | (go_simp; with_reducible rfl)); (· simp only [Act.put, List.setIfInBounds_toArray, List.set_cons_zero, List.set_cons_succ]; rfl)))
        refine tr_call (args := ?_) rfl Tryd.func14 (by kernel_rfl) rfl (by rfl) rfl rfl ?_ ?_
        rotate_left 1
        · go_simp; rfl
        (with_reducible refine (hls _ (hE.trans hd0)).mono ?_)
        rintro e w3 ⟨rfl, hE3⟩
        refine ⟨_, _, rfl, hd0.trans hE3, (by simp only [Act.put, List.setIfInBounds_toArray, List.set_cons_zero, List.set_cons_succ]; rfl), ?_⟩
        refine tr_call (args := ?_) rfl Tryd.func24 (by kernel_rfl) rfl (by rfl) rfl rfl ?_ ?_
        rotate_left 1
        · go_simp; rfl
        (with_reducible refine (hna _).mono ?_)
        rintro e w4 ⟨rfl, hE4⟩
        refine ⟨_, _, rfl, hd0.trans (hE3.trans hE4), (by simp only [Act.put, List.setIfInBounds_toArray, List.set_cons_zero, List.set_cons_succ]; rfl), ?_⟩
        iterate 1 (first | (refine tr_off (a' := ?_) rfl rfl (by rfl) ?_ ?_; rotate_left 1; (· simp only [Act.put, List.setIfInBounds_toArray, List.set_cons_zero, List.set_cons_succ]; rfl)) | (refine tr_y (v := ?_) (a' := ?_) rfl rfl (by rfl) (fun w' hw' => ?_) ?_ ?_; rotate_left 2; (· first | (refine (run_op_load rfl ?_ (lr1 w' hw')).trans ?_; (· rfl); (· with_reducible rfl)) | (refine (run_op_load rfl ?_ (lr2 w' hw')).trans ?_; (· rfl); (· with_reducible rfl)) | (refine (run_op_load rfl ?_ (lr3 w' hw')).trans ?_; (· rfl); (· with_reducible rfl)) | (go_simp; with_reducible rfl)); (· simp only [Act.put, List.setIfInBounds_toArray, List.set_cons_zero, List.set_cons_succ]; rfl)))
        refine tr_end (NoPanic.normal ?_)
        have e4 : Ext W w4 := hd0.trans (hE3.trans hE4)
        clear hE2 hE3 hE4 hd0 hls hna lg hck
        cases gn
        · obtain ⟨wz, hsz, Bz, hXz⟩ := over_row (C := #[.string ⟨#[]⟩, .int .i64 0, .slice none 0 0, .int .u8 0, .int .u8 0, .int .u8 0, .int .u8 0, .int .u8 0, .int .u8 0, .int .u8 0, .int .u8 0, .int .u8 0, .int .u8 0, .int .u8 0, .int .u8 0, .int .u8 0, .int .u8 0, .int .u8 0, .int .u8 0, .int .u8 0, .int .u8 0, .int .u8 0, .int .u8 0, .int .u8 0, .int .u8 0, .int .u8 0, .int .u8 0, .int .u8 0, .int .u8 0, .int .u8 0, .int .u8 0, .int .u8 0, .int .u8 0, .int .u8 0, .int .u8 0]) (B3.ext e4) rfl (by kernel_rfl) ztok_one
          go_upto_region 10 with fail
          refine wp_region_lit ?_
          iterate 1 (first | (refine pl_off (a' := ?_) rfl (by rfl) ?_ ?_; rotate_left 1; (· simp only [Act.put, List.setIfInBounds_toArray, List.set_cons_zero, List.set_cons_succ]; rfl)) | (refine pl_y (v := ?_) (a' := ?_) rfl (by rfl) ?_ ?_ ?_; rotate_left 2; (· go_simp; with_reducible rfl); (· simp only [Act.put, List.setIfInBounds_toArray, List.set_cons_zero, List.set_cons_succ]; rfl)))
          refine pl_store (by rfl) rfl (run_op_store rfl ?_ ?_ hsz) ?_
          · rfl
          · rfl
          iterate 1 (first | (refine pl_off (a' := ?_) rfl (by rfl) ?_ ?_; rotate_left 1; (· simp only [Act.put, List.setIfInBounds_toArray, List.set_cons_zero, List.set_cons_succ]; rfl)) | (refine pl_y (v := ?_) (a' := ?_) rfl (by rfl) ?_ ?_ ?_; rotate_left 2; (· go_simp; with_reducible rfl); (· simp only [Act.put, List.setIfInBounds_toArray, List.set_cons_zero, List.set_cons_succ]; rfl)))
          refine wpList_nil ?_
          go_wp2_with fail
          refine bodyPost_ret (v := .tuple #[.agg #[.string ⟨#[]⟩, .int .i64 0, .slice none 0 0, .int .u8 0, .int .u8 0, .int .u8 0, .int .u8 0, .int .u8 0, .int .u8 0, .int .u8 0, .int .u8 0, .int .u8 0, .int .u8 0, .int .u8 0, .int .u8 0, .int .u8 0, .int .u8 0, .int .u8 0, .int .u8 0, .int .u8 0, .int .u8 0, .int .u8 0, .int .u8 0, .int .u8 0, .int .u8 0, .int .u8 0, .int .u8 0, .int .u8 0, .int .u8 0, .int .u8 0, .int .u8 0, .int .u8 0, .int .u8 0, .int .u8 0, .int .u8 0], .int .i64 25]) (results_row_tmp (fn := Tryd.f26) rfl _ wz r0 _ _ _ _ rfl Bz Tryd.underlying27 rfl (by kernel_rfl) rfl) rfl ?_
          rw [← HP.out]
          unfold attG
          rw [HL.out, if_neg h0, if_neg h6, HGC.out, if_neg (by simp), HGN.out, if_pos rfl]
          exact tokP_zero (Exc.ext (hE.trans e4) hXz hrw)
        · have hcl := fun (w' : World) (h : Ext W w') (h4 : Ext w4 w') => (gclone_any w' A c t.gs (hS.ext (hE.trans h)) (by rw [HL.out]; omega) (by rw [HL.out]; omega)).mono (R' := fun e w'' => ∃ v, e = .returned v ∧ OwnG w4.heap.size w'' v t.gs ∧ Ext w' w'') (fun e w'' ⟨v, h1, h2, h3⟩ => ⟨v, h1, own_base h2 h4.le, h3⟩)
          rw [HL.out] at hcl
          obtain ⟨ie, hie, hzz, hzs, hzb⟩ := info_parts (show (Tryd.prog.info? 35).map (fun i => (i.zero, i.size, i.bytes)) = some (some (.agg #[.int .i64 0, .string ⟨#[]⟩, .bool false, .int .i64 0]), 4, 40) from by kernel_rfl)
          have hbs := fun (w' : World) => run_build1 w' 24 35 G ie _ Tryd.underlying24 hie hzz (by rw [hzs, szG]) (by omega) (by omega)
          have h1G : ∀ u ∈ G.toList, u.oneCell' = true := by rw [← HG.out]; exact one_gr g
          have hlen := HL.out
          have hfl : (t.gs.flatMap fun x => (grA x).toList) ++ G.toList = (t.gs ++ [g]).flatMap fun x => (grA x).toList := by rw [List.flatMap_append, ← HG.out]; simp
          have hf1 := B1.frozen 2
          clear hie hzz hzs hzb
          go_upto_region 11 with fail
          apply key5 (F := fun (u33 : Value) (g35 : Nat) (A9 : Option Addr) (c9 : Nat) (wF : World) => OwnG w4.heap.size wF (.slice A9 (n + 1) c9) (t.gs ++ [g]) ∧ Blk wF w.heap.size 27 (tokA t (.slice A9 (n + 1) c9)) ∧ Blk wF (w.heap.size + 1) 35 G ∧ Blk wF r0 27 #[.string ⟨#[]⟩, .int .i64 0, .slice none 0 0, .int .u8 0, .int .u8 0, .int .u8 0, .int .u8 0, .int .u8 0, .int .u8 0, .int .u8 0, .int .u8 0, .int .u8 0, .int .u8 0, .int .u8 0, .int .u8 0, .int .u8 0, .int .u8 0, .int .u8 0, .int .u8 0, .int .u8 0, .int .u8 0, .int .u8 0, .int .u8 0, .int .u8 0, .int .u8 0, .int .u8 0, .int .u8 0, .int .u8 0, .int .u8 0, .int .u8 0, .int .u8 0, .int .u8 0, .int .u8 0, .int .u8 0, .int .u8 0] ∧ Ext w wF ∧ w4.heap.size ≤ wF.heap.size)
          · intro key
            refine wp_region_noPanic ?_
            refine tr_start (.y 0 (.y 1 (.y 3 (.two 2 4 (.e 4 (.e 5 (.y 6 (.e 7 .nil)))) (.e 2 (.e 5 (.y 6 (.e 7 .nil)))))))) (fun w' => Ext W w') (by kernel_rfl) (by as_aux_lemma => kernel_rfl) (fun _ _ _ _ _ h => h) (by (repeat (first | assumption | exact Ext.refl _ | refine Ext.drew ?_ | refine Ext.alloc ?_ _ | refine Ext.drewN ?_ _ | refine Ext.trans ?_ (by assumption)))) ?_
            have e0 : Ext w4 w4.drew := (Ext.refl _).drew
            generalize w4.drew = q0 at e0 ⊢
            have hY0 := e4.trans e0
            (first | (refine tr_off (a' := ?_) rfl rfl (by rfl) ?_ ?_; rotate_left 1; (· simp only [Act.put, List.setIfInBounds_toArray, List.set_cons_zero, List.set_cons_succ]; rfl)) | (refine tr_y (v := ?_) (a' := ?_) rfl rfl (by rfl) (fun w' hw' => ?_) ?_ ?_; rotate_left 2; (· first | (refine (run_op_load rfl ?_ (lr1 w' hw')).trans ?_; (· rfl); (· with_reducible rfl)) | (refine (run_op_load rfl ?_ (lr2 w' hw')).trans ?_; (· rfl); (· with_reducible rfl)) | (refine (run_op_load rfl ?_ (lr3 w' hw')).trans ?_; (· rfl); (· with_reducible rfl)) | (go_simp; with_reducible rfl)); (· simp only [Act.put, List.setIfInBounds_toArray, List.set_cons_zero, List.set_cons_succ]; rfl)))
            (first | (refine tr_off (a' := ?_) rfl rfl (by rfl) ?_ ?_; rotate_left 1; (· simp only [Act.put, List.setIfInBounds_toArray, List.set_cons_zero, List.set_cons_succ]; rfl)) | (refine tr_y (v := ?_) (a' := ?_) rfl rfl (by rfl) (fun w' hw' => ?_) ?_ ?_; rotate_left 2; (· first | (refine (run_op_load rfl ?_ (lr1 w' hw')).trans ?_; (· rfl); (· with_reducible rfl)) | (refine (run_op_load rfl ?_ (lr2 w' hw')).trans ?_; (· rfl); (· with_reducible rfl)) | (refine (run_op_load rfl ?_ (lr3 w' hw')).trans ?_; (· rfl); (· with_reducible rfl)) | (go_simp; with_reducible rfl)); (· simp only [Act.put, List.setIfInBounds_toArray, List.set_cons_zero, List.set_cons_succ]; rfl)))
            (first | (refine tr_off (a' := ?_) rfl rfl (by rfl) ?_ ?_; rotate_left 1; (· simp only [Act.put, List.setIfInBounds_toArray, List.set_cons_zero, List.set_cons_succ]; rfl)) | (refine tr_y (v := ?_) (a' := ?_) rfl rfl (by rfl) (fun w' hw' => ?_) ?_ ?_; rotate_left 2; (· first | (refine (run_op_load rfl ?_ (lr1 w' hw')).trans ?_; (· rfl); (· with_reducible rfl)) | (refine (run_op_load rfl ?_ (lr2 w' hw')).trans ?_; (· rfl); (· with_reducible rfl)) | (refine (run_op_load rfl ?_ (lr3 w' hw')).trans ?_; (· rfl); (· with_reducible rfl)) | (go_simp; with_reducible rfl)); (· simp only [Act.put, List.setIfInBounds_toArray, List.set_cons_zero, List.set_cons_succ]; rfl)))
            refine tr_two ?_ ?_
            · refine tr_call (args := ?_) rfl Tryd.func60 (by kernel_rfl) rfl (by rfl) rfl rfl ?_ ?_
              rotate_left 1
              · go_simp; rfl
              (with_reducible refine (hcl _ hY0 e0).mono ?_)
              rintro e q1 ⟨u33, rfl, ho33, e1⟩
              have hY1 := hY0.trans e1
              refine ⟨_, _, rfl, hY1, (by simp only [Act.put, List.setIfInBounds_toArray, List.set_cons_zero, List.set_cons_succ]; rfl), ?_⟩
              have b35 := Blk.new q1 35 G
              have e2 : Ext q1 (q1.alloc (.cells G 35)) := (Ext.refl _).alloc _
              have hY2 := hY1.trans e2
              refine tr_value (a' := ?_) rfl rfl (by rfl) (run_op_bs rfl rfl (hbs q1)) hY2 ?_ ?_
              rotate_left 1
              · simp only [Act.put, List.setIfInBounds_toArray, List.set_cons_zero, List.set_cons_succ]; rfl
              have l35 : W.heap.size ≤ q1.heap.size := Ext.le hY1
              generalize q1.alloc (.cells G 35) = q2 at b35 e2 hY2 ⊢
              generalize q1.heap.size = g35 at b35 l35 ⊢
              refine tr_append (news := G.toList) rfl (by rfl) rfl elt_Grants (.tmp 33) (.tmp 35) rfl (ho33.ext e2) rfl rfl (blk_cells b35 szG) h1G (by unfold maxLen; omega) (by omega) ((e0.trans (e1.trans e2))).le ?_
              intro u36 q3 hown' hgrow
              have hF : Ext w4 q3 := grown_ext2 (e0.trans (e1.trans e2)) (ho33.ext e2) hgrow (Nat.le_refl _)
              have hY3 := e4.trans hF
              rw [hfl, hlen] at hown'
              obtain ⟨A9, c9, rfl⟩ := own_val hown'
              refine ⟨_, hY3, (by simp only [Act.put, List.setIfInBounds_toArray, List.set_cons_zero, List.set_cons_succ]; rfl), ?_⟩
              (first | (refine tr_off (a' := ?_) rfl rfl (by rfl) ?_ ?_; rotate_left 1; (· simp only [Act.put, List.setIfInBounds_toArray, List.set_cons_zero, List.set_cons_succ]; rfl)) | (refine tr_y (v := ?_) (a' := ?_) rfl rfl (by rfl) (fun w' hw' => ?_) ?_ ?_; rotate_left 2; (· first | (refine (run_op_load rfl ?_ (lr1 w' hw')).trans ?_; (· rfl); (· with_reducible rfl)) | (refine (run_op_load rfl ?_ (lr2 w' hw')).trans ?_; (· rfl); (· with_reducible rfl)) | (refine (run_op_load rfl ?_ (lr3 w' hw')).trans ?_; (· rfl); (· with_reducible rfl)) | (go_simp; with_reducible rfl)); (· simp only [Act.put, List.setIfInBounds_toArray, List.set_cons_zero, List.set_cons_succ]; rfl)))
              have c2 := xr2 _ hY3
              have f2 := (B1.ext hY3).frozen 2
              refine tr_last (w1 := q3.setCell ⟨w.heap.size, 2, none⟩ (.slice A9 (n + 1) c9)) rfl (by rfl) rfl (by kernel_rfl) (by go_simp; try rfl) ?_
              refine NoPanic.normal ?_
              have hown9 : OwnG w4.heap.size q3 (.slice A9 (n + 1) c9) (t.gs ++ [g]) := (by unfold OwnG; rw [List.length_append, HL.out]; exact hown')
              have hBt := (B1.ext hY3).set_ 2 (.slice A9 (n + 1) c9)
              rw [← HT.out] at hBt
              exact key u33 g35 A9 c9 _ ⟨hown9.exc (Exc.setCell (lo := w.heap.size) (hi := w.heap.size + 1) (p := ⟨w.heap.size, 2, none⟩) (Nat.le_refl _) (Nat.lt_succ_self _) _) (by have := e4.le; have := B1.lt; omega), hBt, (B2.ext hY3).far (p := ⟨w.heap.size, 2, none⟩) (by show w.heap.size + 1 ≠ w.heap.size; omega) _, (B3.ext hY3).far (p := ⟨w.heap.size, 2, none⟩) (by show r0 ≠ w.heap.size; omega) _, (hE.trans hY3).set (p := ⟨w.heap.size, 2, none⟩) (Nat.le_refl _) _, by have := hF.le; simpa using this⟩
            · have b35 := Blk.new q0 35 G
              have e1 : Ext q0 (q0.alloc (.cells G 35)) := (Ext.refl _).alloc _
              have hY1 := hY0.trans e1
              refine tr_value (a' := ?_) rfl rfl (by rfl) (run_op_bs rfl rfl (hbs q0)) hY1 ?_ ?_
              rotate_left 1
              · simp only [Act.put, List.setIfInBounds_toArray, List.set_cons_zero, List.set_cons_succ]; rfl
              have l35 : W.heap.size ≤ q0.heap.size := Ext.le hY0
              generalize q0.alloc (.cells G 35) = q1 at b35 e1 hY1 ⊢
              generalize q0.heap.size = g35 at b35 l35 ⊢
              refine tr_call (args := ?_) rfl Tryd.func60 (by kernel_rfl) rfl (by rfl) rfl rfl ?_ ?_
              rotate_left 1
              · go_simp; rfl
              (with_reducible refine (hcl _ hY1 (e0.trans e1)).mono ?_)
              rintro e q2 ⟨u33, rfl, ho33, e2⟩
              have hY2 := hY1.trans e2
              refine ⟨_, _, rfl, hY2, (by simp only [Act.put, List.setIfInBounds_toArray, List.set_cons_zero, List.set_cons_succ]; rfl), ?_⟩
              refine tr_append (news := G.toList) rfl (by rfl) rfl elt_Grants (.tmp 33) (.tmp 35) rfl ho33 rfl rfl (blk_cells (b35.ext e2) szG) h1G (by unfold maxLen; omega) (by omega) ((e0.trans (e1.trans e2))).le ?_
              intro u36 q3 hown' hgrow
              have hF : Ext w4 q3 := grown_ext2 (e0.trans (e1.trans e2)) ho33 hgrow (Nat.le_refl _)
              have hY3 := e4.trans hF
              rw [hfl, hlen] at hown'
              obtain ⟨A9, c9, rfl⟩ := own_val hown'
              refine ⟨_, hY3, (by simp only [Act.put, List.setIfInBounds_toArray, List.set_cons_zero, List.set_cons_succ]; rfl), ?_⟩
              (first | (refine tr_off (a' := ?_) rfl rfl (by rfl) ?_ ?_; rotate_left 1; (· simp only [Act.put, List.setIfInBounds_toArray, List.set_cons_zero, List.set_cons_succ]; rfl)) | (refine tr_y (v := ?_) (a' := ?_) rfl rfl (by rfl) (fun w' hw' => ?_) ?_ ?_; rotate_left 2; (· first | (refine (run_op_load rfl ?_ (lr1 w' hw')).trans ?_; (· rfl); (· with_reducible rfl)) | (refine (run_op_load rfl ?_ (lr2 w' hw')).trans ?_; (· rfl); (· with_reducible rfl)) | (refine (run_op_load rfl ?_ (lr3 w' hw')).trans ?_; (· rfl); (· with_reducible rfl)) | (go_simp; with_reducible rfl)); (· simp only [Act.put, List.setIfInBounds_toArray, List.set_cons_zero, List.set_cons_succ]; rfl)))
              have c2 := xr2 _ hY3
              have f2 := (B1.ext hY3).frozen 2
              refine tr_last (w1 := q3.setCell ⟨w.heap.size, 2, none⟩ (.slice A9 (n + 1) c9)) rfl (by rfl) rfl (by kernel_rfl) (by go_simp; try rfl) ?_
              refine NoPanic.normal ?_
              have hown9 : OwnG w4.heap.size q3 (.slice A9 (n + 1) c9) (t.gs ++ [g]) := (by unfold OwnG; rw [List.length_append, HL.out]; exact hown')
              have hBt := (B1.ext hY3).set_ 2 (.slice A9 (n + 1) c9)
              rw [← HT.out] at hBt
              exact key u33 g35 A9 c9 _ ⟨hown9.exc (Exc.setCell (lo := w.heap.size) (hi := w.heap.size + 1) (p := ⟨w.heap.size, 2, none⟩) (Nat.le_refl _) (Nat.lt_succ_self _) _) (by have := e4.le; have := B1.lt; omega), hBt, (B2.ext hY3).far (p := ⟨w.heap.size, 2, none⟩) (by show w.heap.size + 1 ≠ w.heap.size; omega) _, (B3.ext hY3).far (p := ⟨w.heap.size, 2, none⟩) (by show r0 ≠ w.heap.size; omega) _, (hE.trans hY3).set (p := ⟨w.heap.size, 2, none⟩) (Nat.le_refl _) _, by have := hF.le; simpa using this⟩
          · intro u33 g35 A9 c9 wF hkey
            obtain ⟨hO, BT, BG, BR, hEF, hsz⟩ := hkey
            have hTe : tokA t (.slice A9 (n + 1) c9) = ([Value.string t.ten, Value.int .i64 t.id, .slice A9 (n + 1) c9] ++ (macA t.mac).toList ++ []).toArray := rfl
            have lr3 := fun (w' : World) (h : Ext wF w') => load_part (BT.ext h) 3 (macA t.mac) [Value.string t.ten, Value.int .i64 t.id, .slice A9 (n + 1) c9] [] hTe rfl 25 _ Tryd.underlying25 rfl (by kernel_rfl)
            have hcn := fun (w' : World) (h : Ext wF w') {B' N : Nat} {v : Value} (hb : OwnN B' N w' v (gB g)) (hN : N ≤ 1000000000) => macChain_own w' t.mac hts hb (gB_pos g) hN (hK.ext (hEF.trans h)) (hI.ext (hEF.trans h))
            have lr2 := fun (w' : World) (h : Ext wF w') => load_whole (BG.ext h) 35 _ Tryd.underlying35 rfl (by rw [szG]; kernel_rfl)
            obtain ⟨CN, hCN⟩ : ∃ C, macA (macB t.mac (gB g)) = C := ⟨_, rfl⟩
            have szN : CN.size = 32 := by rw [← hCN]; exact macA_size _
            have oneN : CN.all (·.oneCell') = true := by rw [← hCN]; exact macA_one _
            rw [hCN] at hcn
            have HCN := Lib.hid hCN
            obtain ⟨CK, hCK⟩ : ∃ C, macA t.mac = C := ⟨_, rfl⟩
            rw [hCK] at lr3 hcn
            have HCK := Lib.hid hCK
            clear hCN hCK hcl hbs h1G hfl lr1 xr2 hf1
            have hd0 : Ext wF wF.drew := (Ext.refl _).drew
            go_upto_region 12 with fail
            refine wp_region_noPanic ?_
            refine tr_start (.y 0 (.y 1 (.y 2 (.e 3 (.e 4 (.y 5 (.e 6 .nil))))))) (fun w' => Ext wF w') (by kernel_rfl) (by as_aux_lemma => kernel_rfl) (fun _ _ _ _ _ h => h) (hd0) ?_
            iterate 3 (first | (refine tr_off (a' := ?_) rfl rfl (by rfl) ?_ ?_; rotate_left 1; (· simp only [Act.put, List.setIfInBounds_toArray, List.set_cons_zero, List.set_cons_succ]; rfl)) | (refine tr_y (v := ?_) (a' := ?_) rfl rfl (by rfl) (fun w' hw' => ?_) ?_ ?_; rotate_left 2; (· first | (refine (run_op_load rfl ?_ (lr1 w' hw')).trans ?_; (· rfl); (· with_reducible rfl)) | (refine (run_op_load rfl ?_ (lr2 w' hw')).trans ?_; (· rfl); (· with_reducible rfl)) | (refine (run_op_load rfl ?_ (lr3 w' hw')).trans ?_; (· rfl); (· with_reducible rfl)) | (go_simp; with_reducible rfl)); (· simp only [Act.put, List.setIfInBounds_toArray, List.set_cons_zero, List.set_cons_succ]; rfl)))
            refine tr_call (args := ?_) rfl Tryd.func61 (by kernel_rfl) rfl (by rfl) rfl rfl ?_ ?_
            rotate_left 1
            · go_simp; rfl
            (with_reducible refine (hby _).mono ?_)
            rintro e w6 ⟨u41, rfl, hO6, hE6⟩
            refine ⟨_, _, rfl, hd0.trans hE6, (by simp only [Act.put, List.setIfInBounds_toArray, List.set_cons_zero, List.set_cons_succ]; rfl), ?_⟩
            refine tr_call (args := ?_) rfl Tryd.func21 (by kernel_rfl) rfl (by rfl) rfl rfl ?_ ?_
            rotate_left 1
            · go_simp; rfl
            (with_reducible refine (hcn w6 (hd0.trans hE6) (hO6.re (by simp)) (by omega)).mono ?_)
            rintro e w7 ⟨rfl, hE7⟩
            refine ⟨_, _, rfl, hd0.trans (hE6.trans hE7), (by simp only [Act.put, List.setIfInBounds_toArray, List.set_cons_zero, List.set_cons_succ]; rfl), ?_⟩
            iterate 1 (first | (refine tr_off (a' := ?_) rfl rfl (by rfl) ?_ ?_; rotate_left 1; (· simp only [Act.put, List.setIfInBounds_toArray, List.set_cons_zero, List.set_cons_succ]; rfl)) | (refine tr_y (v := ?_) (a' := ?_) rfl rfl (by rfl) (fun w' hw' => ?_) ?_ ?_; rotate_left 2; (· first | (refine (run_op_load rfl ?_ (lr1 w' hw')).trans ?_; (· rfl); (· with_reducible rfl)) | (refine (run_op_load rfl ?_ (lr2 w' hw')).trans ?_; (· rfl); (· with_reducible rfl)) | (refine (run_op_load rfl ?_ (lr3 w' hw')).trans ?_; (· rfl); (· with_reducible rfl)) | (go_simp; with_reducible rfl)); (· simp only [Act.put, List.setIfInBounds_toArray, List.set_cons_zero, List.set_cons_succ]; rfl)))
            have e7 : Ext wF w7 := hd0.trans (hE6.trans hE7)
            obtain ⟨w8, hst8, BT8, hX8⟩ := store_part (BT.ext e7) 3 CN [Value.string t.ten, Value.int .i64 t.id, .slice A9 (n + 1) c9] (macA t.mac).toList [] hTe rfl (by rw [szN]; rfl) 25 (by rw [szN]; kernel_rfl) oneN
            refine tr_last (w1 := w8) rfl (by rfl) rfl (by kernel_rfl) (run_op_store rfl (by rfl) (by rfl) hst8) ?_
            refine NoPanic.normal ?_
            rw [← HCN.out] at BT8
            have BT8 : Blk w8 w.heap.size 27 (tokA ⟨t.ten, t.id, t.gs ++ [g], macB t.mac (gB g)⟩ (.slice A9 (n + 1) c9)) := BT8
            obtain ⟨T1, hT1⟩ : ∃ T, tokA ⟨t.ten, t.id, t.gs ++ [g], macB t.mac (gB g)⟩ (.slice A9 (n + 1) c9) = T := ⟨_, rfl⟩
            have szT1 : T1.size = 35 := by rw [← hT1]; rfl
            have oneT1 : T1.all (·.oneCell') = true := by rw [← hT1]; exact one_tok _ _ rfl
            rw [hT1] at BT8
            have HT1 := Lib.hid hT1
            have hX8 : Exc w.heap.size (w.heap.size + 1) w7 w8 := hX8
            have lt8 := load_whole BT8 27 _ Tryd.underlying27 rfl (by rw [szT1]; kernel_rfl)
            have B38 : Blk w8 r0 27 #[.string ⟨#[]⟩, .int .i64 0, .slice none 0 0, .int .u8 0, .int .u8 0, .int .u8 0, .int .u8 0, .int .u8 0, .int .u8 0, .int .u8 0, .int .u8 0, .int .u8 0, .int .u8 0, .int .u8 0, .int .u8 0, .int .u8 0, .int .u8 0, .int .u8 0, .int .u8 0, .int .u8 0, .int .u8 0, .int .u8 0, .int .u8 0, .int .u8 0, .int .u8 0, .int .u8 0, .int .u8 0, .int .u8 0, .int .u8 0, .int .u8 0, .int .u8 0, .int .u8 0, .int .u8 0, .int .u8 0, .int .u8 0] := hX8.blk (BR.ext e7) (.inr (by omega))
            obtain ⟨w9, hst9, B9, hX9⟩ := over_row (C := T1) B38 (by rw [szT1]; rfl) (by rw [szT1]; kernel_rfl) oneT1
            have hr4 : r0 < w4.heap.size := (B3.ext e4).lt
            have hO9 : OwnG w4.heap.size w9 (.slice A9 (n + 1) c9) (t.gs ++ [g]) := ((hO.ext e7).exc hX8 (by omega)).exc hX9 (by omega)
            clear hT1 hst8 lr3 lr2 hcn hby
            go_upto_region 13 with fail
            refine wp_region_lit ?_
            refine pl_y (v := ?_) (a' := ?_) rfl (by rfl) ?_ ?_ ?_
            rotate_left 2
            · (refine (run_op_load rfl ?_ (lt8)).trans ?_; (· rfl); (· with_reducible rfl))
            · simp only [Act.put, List.setIfInBounds_toArray, List.set_cons_zero, List.set_cons_succ]; rfl
            refine pl_store (by rfl) rfl (run_op_store rfl ?_ ?_ hst9) ?_
            · rfl
            · rfl
            iterate 1 (first | (refine pl_off (a' := ?_) rfl (by rfl) ?_ ?_; rotate_left 1; (· simp only [Act.put, List.setIfInBounds_toArray, List.set_cons_zero, List.set_cons_succ]; rfl)) | (refine pl_y (v := ?_) (a' := ?_) rfl (by rfl) ?_ ?_ ?_; rotate_left 2; (· go_simp; with_reducible rfl); (· simp only [Act.put, List.setIfInBounds_toArray, List.set_cons_zero, List.set_cons_succ]; rfl)))
            refine wpList_nil ?_
            go_wp2_with fail
            refine bodyPost_ret (v := .tuple #[.agg T1, .int .i64 0]) (results_row_tmp (fn := Tryd.f26) rfl _ w9 r0 _ _ _ _ rfl B9 Tryd.underlying27 rfl (by rw [szT1]; kernel_rfl) rfl) rfl ?_
            rw [← HP.out]
            unfold attG
            rw [HL.out, if_neg h0, if_neg h6, HGC.out, if_neg (by simp), HGN.out, if_neg (by decide)]
            exact ⟨_, by rw [← HT1.out], hO9.gs (by have := e4.le; have := hE.le; omega), Exc.ext (Exc.ext (hEF.trans e7) hX8 (Nat.le_refl _)) hX9 hrw⟩
      · have hc1 : (gc == 0) = false := by simpa using hc0
        have hc2 : (gc != 0) = true := by simpa using hc0
        go_enter Tryd.func26, Tryd.ntmps26
        go_upto_region 1 with fail
        rw [← hW]
        try rw [hr0]
        clear hW
        go_upto_region 8 with (first | (refine wpList_load_by rfl rfl ?_ lg ?_; (· rfl)) | (go_at_call 23; (with_reducible refine (hck _).mono ?_); rintro e w2 ⟨rfl, hE2⟩))
        obtain ⟨wz, hsz, Bz, hXz⟩ := over_row (C := #[.string ⟨#[]⟩, .int .i64 0, .slice none 0 0, .int .u8 0, .int .u8 0, .int .u8 0, .int .u8 0, .int .u8 0, .int .u8 0, .int .u8 0, .int .u8 0, .int .u8 0, .int .u8 0, .int .u8 0, .int .u8 0, .int .u8 0, .int .u8 0, .int .u8 0, .int .u8 0, .int .u8 0, .int .u8 0, .int .u8 0, .int .u8 0, .int .u8 0, .int .u8 0, .int .u8 0, .int .u8 0, .int .u8 0, .int .u8 0, .int .u8 0, .int .u8 0, .int .u8 0, .int .u8 0, .int .u8 0, .int .u8 0]) (B3.ext hE2) rfl (by kernel_rfl) ztok_one
        refine wp_region_lit ?_
        iterate 2 (first | (refine pl_off (a' := ?_) rfl (by rfl) ?_ ?_; rotate_left 1; (· simp only [Act.put, List.setIfInBounds_toArray, List.set_cons_zero, List.set_cons_succ]; rfl)) | (refine pl_y (v := ?_) (a' := ?_) rfl (by rfl) ?_ ?_ ?_; rotate_left 2; (· go_simp; with_reducible rfl); (· simp only [Act.put, List.setIfInBounds_toArray, List.set_cons_zero, List.set_cons_succ]; rfl)))
        refine pl_store (by rfl) rfl (run_op_store rfl ?_ ?_ hsz) ?_
        · rfl
        · rfl
        iterate 1 (first | (refine pl_off (a' := ?_) rfl (by rfl) ?_ ?_; rotate_left 1; (· simp only [Act.put, List.setIfInBounds_toArray, List.set_cons_zero, List.set_cons_succ]; rfl)) | (refine pl_y (v := ?_) (a' := ?_) rfl (by rfl) ?_ ?_ ?_; rotate_left 2; (· go_simp; with_reducible rfl); (· simp only [Act.put, List.setIfInBounds_toArray, List.set_cons_zero, List.set_cons_succ]; rfl)))
        refine wpList_nil ?_
        go_wp2_with fail
        refine bodyPost_ret (v := .tuple #[.agg #[.string ⟨#[]⟩, .int .i64 0, .slice none 0 0, .int .u8 0, .int .u8 0, .int .u8 0, .int .u8 0, .int .u8 0, .int .u8 0, .int .u8 0, .int .u8 0, .int .u8 0, .int .u8 0, .int .u8 0, .int .u8 0, .int .u8 0, .int .u8 0, .int .u8 0, .int .u8 0, .int .u8 0, .int .u8 0, .int .u8 0, .int .u8 0, .int .u8 0, .int .u8 0, .int .u8 0, .int .u8 0, .int .u8 0, .int .u8 0, .int .u8 0, .int .u8 0, .int .u8 0, .int .u8 0, .int .u8 0, .int .u8 0], .int .i64 gc]) (results_row_tmp (fn := Tryd.f26) rfl _ wz r0 _ _ _ _ rfl Bz Tryd.underlying27 rfl (by kernel_rfl) rfl) rfl ?_
        rw [← HP.out]
        unfold attG
        rw [HL.out, if_neg h0, if_neg h6, HGC.out, if_pos hc0]
        exact tokP_zero (Exc.ext (hE.trans hE2) hXz hrw)
end Go.Proofs.YtjcpgjnogcmalaaDoor

/-! Tokens without the program: what was minted and narrowed verifies. -/
namespace Go.Proofs.YtjcpgjnogcmalaaDoor
set_option linter.unusedVariables false
set_option linter.unusedSimpArgs false
open Go.RowKit
theorem chain_eq (root : List UInt8) {a b : Tok} (h1 : a.ten = b.ten) (h2 : a.id = b.id) (h3 : a.gs = b.gs) : chain root a = chain root b := by unfold chain chAt; rw [h1, h2, h3]
theorem chAt_app (root : List UInt8) (t : Tok) (g : Grant) (m : List UInt8) (k : Nat) (h : k ≤ t.gs.length) : chAt root ⟨t.ten, t.id, t.gs ++ [g], m⟩ k = chAt root t k := by
  unfold chAt
  simp only [List.take_append_of_le_length h]
theorem chain_app (root : List UInt8) (t : Tok) (g : Grant) (m : List UInt8) : chain root ⟨t.ten, t.id, t.gs ++ [g], m⟩ = macB (chain root t) (gB g) := by
  have hl : t.gs.length < (⟨t.ten, t.id, t.gs ++ [g], m⟩ : Tok).gs.length := by simp
  show chAt root ⟨t.ten, t.id, t.gs ++ [g], m⟩ (t.gs ++ [g]).length = _
  rw [show (t.gs ++ [g]).length = t.gs.length + 1 by simp, chAt_succ _ _ _ hl, chAt_app _ _ _ _ _ (Nat.le_refl _)]
  congr 2
  simp
theorem goodTo_app (l : List Grant) (g : Grant) (k : Nat) (h : k ≤ l.length) : goodTo (l ++ [g]) k = goodTo l k := by
  unfold goodTo
  rw [Bool.eq_iff_iff, List.all_eq_true, List.all_eq_true]
  have e : ∀ i ∈ List.range k, goodAt (l ++ [g]) i = goodAt l i := by
    intro i hi
    have hi := List.mem_range.1 hi
    unfold goodAt
    simp only [List.getD_eq_getElem?_getD]
    rw [List.getElem?_append_left (by omega), List.getElem?_append_left (by omega)]
  constructor
  · intro h i hi; rw [← e i hi]; exact h i hi
  · intro h i hi; rw [e i hi]; exact h i hi
/-- What was minted verifies. -/
theorem mint_verifies (root : List UInt8) (ten : ByteArray) (id : Int) (g : Grant) (h : (mintG root ten id g).2 = 0) : verifyG root (mintG root ten id g).1 = 0 ∧ (mintG root ten id g).1.gs = [g] ∧ (mintG root ten id g).1 = ⟨ten, id, [g], chain root ⟨ten, id, [g], zMac⟩⟩ := by
  unfold mintG at h ⊢
  by_cases hp : placedG ten id = 0
  · rw [if_neg (by simp [hp])] at h ⊢
    by_cases hc : gChk g = 0
    · rw [if_neg (by simp [hc])]
      refine ⟨?_, rfl, rfl⟩
      unfold verifyG
      rw [if_pos]
      refine ⟨?_, chain_eq root rfl rfl rfl⟩
      unfold madeG goodTo goodAt
      simp [hp, hc]
    · rw [if_pos hc] at h
      exact absurd h hc
  · rw [if_pos hp] at h
    exact absurd h hp
theorem lastG_app (ten : ByteArray) (id : Int) (l : List Grant) (g : Grant) (m : List UInt8) : lastG ⟨ten, id, l ++ [g], m⟩ = g := by
  unfold lastG; simp [List.getLastD_eq_getLast?]
/-- What is narrowed from what verifies verifies. -/
theorem att_verifies (root : List UInt8) (t : Tok) (g : Grant) (hv : verifyG root t = 0) (h : (attG t g).2 = 0) : verifyG root (attG t g).1 = 0 ∧ (attG t g).1 = ⟨t.ten, t.id, t.gs ++ [g], macB t.mac (gB g)⟩ ∧ gNar (lastG t) g = true := by
  unfold attG at h ⊢
  by_cases h0 : t.gs.length = 0
  · rw [if_pos h0] at h; cases h
  rw [if_neg h0] at h ⊢
  by_cases h6 : 6 ≤ t.gs.length
  · rw [if_pos h6] at h; cases h
  rw [if_neg h6] at h ⊢
  by_cases hc : gChk g = 0
  · rw [if_neg (by simp [hc])] at h ⊢
    by_cases hn : gNar (lastG t) g = false
    · rw [if_pos hn] at h; cases h
    rw [if_neg hn]
    have hn : gNar (lastG t) g = true := by simpa using hn
    refine ⟨?_, rfl, hn⟩
    unfold verifyG at hv ⊢
    by_cases hm : madeG t = true ∧ chain root t = t.mac
    · obtain ⟨hm, hch⟩ := hm
      rw [if_pos]
      refine ⟨?_, by rw [chain_app, hch]⟩
      unfold madeG at hm ⊢
      simp only [Bool.and_eq_true, decide_eq_true_eq, beq_iff_eq] at hm ⊢
      refine ⟨⟨hm.1.1, by simp, by simp; omega⟩, ?_⟩
      show goodTo (t.gs ++ [g]) (t.gs ++ [g]).length = true
      rw [show (t.gs ++ [g]).length = t.gs.length + 1 by simp, goodTo_succ, goodTo_app _ _ _ (Nat.le_refl _), hm.2]
      unfold goodAt
      have e1 : (t.gs ++ [g]).getD t.gs.length zGrant = g := by simp [List.getD_eq_getElem?_getD]
      have e2 : (t.gs ++ [g]).getD (t.gs.length - 1) zGrant = lastG t := by
        rw [List.getD_eq_getElem?_getD, List.getElem?_append_left (by omega), lastG_get t (by omega)]
        rfl
      rw [e1, e2, hc, hn]
      simp
    · rw [if_neg hm] at hv; cases hv
  · rw [if_pos hc] at h
    exact absurd h hc
end Go.Proofs.YtjcpgjnogcmalaaDoor
