/- The law TokenBack, walked. (and what follows) -/
import Derived.Test.YtjcpgjnogcmalaaDoorT9
import Derived.Test.YtjcpgjnogcmalaaDoorRows
import Derived.Lib.LaidTab
import Derived.Stop.LaidErr
/-! The law TokenBack, walked. -/
namespace Go.Proofs.YtjcpgjnogcmalaaDoor
set_option linter.unusedVariables false
set_option linter.unusedSimpArgs false
open Go.RowKit
/-- What is asked of a world: the tables of the sums. -/
structure TabAt (w : World) : Prop where
  k : KAt w
  i : IAt w
theorem TabAt.ext {w w' : World} (h : TabAt w) (e : Ext w w') : TabAt w' := ⟨h.k.ext e, h.i.ext e⟩
theorem TabAt.known {w : World} (h : TabAt w) : Calls Tryd.prog 9 #[] w fun e w' => e = .returned (.bool true) ∧ Ext w w' := tknown_any w h.k h.i
structure TokCome (t : Tok) : Prop where
  n : t.gs.length ≤ 140737488351232
  id : intOk t.id
  g : ∀ g ∈ t.gs, intOk g.r ∧ intOk g.u
  mac : t.mac.length = 32
theorem TokCome.okS {t : Tok} (h : TokCome t) (hn : t.gs.length ≤ 6) (ht : t.ten.size ≤ 24) (hp : ∀ g ∈ t.gs, g.p.size ≤ 24) : tokOk t := ⟨ht, h.id, ⟨hn, fun g hg => ⟨(h.g g hg).1, hp g hg, (h.g g hg).2⟩⟩, h.mac⟩
theorem TokCome.fit {t : Tok} (h : TokCome t) (hn : t.gs.length ≤ 20) (ht : t.ten.size ≤ 1024) (hp : ∀ g ∈ t.gs, g.p.size ≤ 1024) : TokFit t := ⟨by omega, h.id, by omega, fun g hg => ⟨(h.g g hg).1, by have := hp g hg; omega, (h.g g hg).2⟩, h.mac⟩
set_option maxHeartbeats 9000000 in
set_option maxRecDepth 100000 in
theorem tback_walk (w : World) (hT : TabAt w) (t : Tok) (a : Value) (hG : GsV w t.gs a) (ht : TokCome t) (A' : Option Addr) (c' : Nat) (more : List UInt8) (hM : Rd.u8.Sl w A' more.length more) (hMc : more.length ≤ c') (hMn : more.length ≤ 140737488351232) (cut : Int) (hcut : intOk cut) :
    Calls Tryd.prog 7 #[.agg (tokA t a), .slice A' more.length c', .int .i64 cut] w fun e w' => e = .returned (.bool true) ∧ Ext w w' := by
  obtain ⟨A, c, rfl, hc, hS⟩ := hG
  obtain ⟨n, hln⟩ : ∃ n, t.gs.length = n := ⟨_, rfl⟩
  obtain ⟨m, hmn⟩ : ∃ m, more.length = m := ⟨_, rfl⟩
  have HL := Lib.hid hln
  have HM := Lib.hid hmn
  have hlg0 := fun (w' : World) (h : Ext w w') => tlong_any w' A c t.gs (hS.ext h)
  rw [hln] at hlg0
  rw [hmn] at hM hMc hMn
  rw [hln, hmn]
  have hnb := ht.n
  rw [hln] at hnb
  obtain ⟨W, hW, hE, bx⟩ := box1 w (tokA t (.slice A n c)) 27
  have B1 : Blk W w.heap.size 27 (tokA t (.slice A n c)) := by rw [hW]; exact Blk.new _ _ _
  have x0 : W.cell? ⟨w.heap.size, 0, none⟩ = some (.string t.ten) := bx 0 _ rfl
  have xr0 := fun (w' : World) (h : Ext W w') => h.cellk x0
  clear x0
  have x2 : W.cell? ⟨w.heap.size, 2, none⟩ = some (.slice A n c) := bx 2 _ rfl
  have xr2 := fun (w' : World) (h : Ext W w') => h.cellk x2
  clear x2
  have hlg := fun (w' : World) (h : Ext W w') => hlg0 w' (hE.trans h)
  have hkw := fun (w' : World) (h : Ext W w') => (hT.ext (hE.trans h)).known
  have x0 := xr0 W (Ext.refl _)
  have x2 := xr2 W (Ext.refl _)
  have hY := Ext.refl W
  obtain ⟨T, hTT⟩ : ∃ T, tokA t (.slice A n c) = T := ⟨_, rfl⟩
  have HTT := Lib.hid hTT
  have szT : T.size = 35 := by rw [← hTT]; rfl
  rw [hTT] at hW B1 ⊢
  obtain ⟨lg, hlgv⟩ : ∃ z, longGs t.gs = z := ⟨_, rfl⟩
  rw [hlgv] at hlg
  clear hlg0 bx hln hmn hTT hlgv
  by_cases h1 : 6 < n
  · have d1 : decide ((6 : Int) < (n : Int)) = true := decide_eq_true (by omega)
    have d1' : decide (6 < n) = true := decide_eq_true h1
    go_enter Tryd.func7, Tryd.ntmps7
    go_upto_region 1 with fail
    rw [← hW]
    clear hW
    go_wp2_with (first | (go_at_call 8; (with_reducible refine (hlg _ (by (repeat (first | assumption | exact Ext.refl _ | refine Ext.set ?_ (Nat.le_refl _) _ | refine Ext.drew ?_ | refine Ext.alloc ?_ _ | refine Ext.drewN ?_ _ | refine Ext.trans ?_ (by assumption))))).mono ?_); rintro e w8 ⟨rfl, hE8⟩) | (go_at_call 9; (with_reducible refine (hkw _ (by (repeat (first | assumption | exact Ext.refl _ | refine Ext.set ?_ (Nat.le_refl _) _ | refine Ext.drew ?_ | refine Ext.alloc ?_ _ | refine Ext.drewN ?_ _ | refine Ext.trans ?_ (by assumption))))).mono ?_); rintro e w9 ⟨rfl, hE9⟩))
    go_ret
    exact ⟨rfl, hE.trans (by (repeat (first | assumption | exact Ext.refl _ | refine Ext.set ?_ (Nat.le_refl _) _ | refine Ext.drew ?_ | refine Ext.alloc ?_ _ | refine Ext.drewN ?_ _ | refine Ext.trans ?_ (by assumption))))⟩
  have d1 : decide ((6 : Int) < (n : Int)) = false := decide_eq_false (by omega)
  have d1' : decide (6 < n) = false := decide_eq_false h1
  cases lg with
  | true =>
    go_enter Tryd.func7, Tryd.ntmps7
    go_upto_region 1 with fail
    rw [← hW]
    clear hW
    go_wp2_with (first | (go_at_call 8; (with_reducible refine (hlg _ (by (repeat (first | assumption | exact Ext.refl _ | refine Ext.set ?_ (Nat.le_refl _) _ | refine Ext.drew ?_ | refine Ext.alloc ?_ _ | refine Ext.drewN ?_ _ | refine Ext.trans ?_ (by assumption))))).mono ?_); rintro e w8 ⟨rfl, hE8⟩) | (go_at_call 9; (with_reducible refine (hkw _ (by (repeat (first | assumption | exact Ext.refl _ | refine Ext.set ?_ (Nat.le_refl _) _ | refine Ext.drew ?_ | refine Ext.alloc ?_ _ | refine Ext.drewN ?_ _ | refine Ext.trans ?_ (by assumption))))).mono ?_); rintro e w9 ⟨rfl, hE9⟩))
    go_ret
    exact ⟨rfl, hE.trans (by (repeat (first | assumption | exact Ext.refl _ | refine Ext.set ?_ (Nat.le_refl _) _ | refine Ext.drew ?_ | refine Ext.alloc ?_ _ | refine Ext.drewN ?_ _ | refine Ext.trans ?_ (by assumption))))⟩
  | false =>
  by_cases h3 : 24 < t.ten.size
  · have d3 : decide ((24 : Int) < (t.ten.size : Int)) = true := decide_eq_true (by omega)
    have d3' : decide (24 < t.ten.size) = true := decide_eq_true h3
    go_enter Tryd.func7, Tryd.ntmps7
    go_upto_region 1 with fail
    rw [← hW]
    clear hW
    go_wp2_with (first | (go_at_call 8; (with_reducible refine (hlg _ (by (repeat (first | assumption | exact Ext.refl _ | refine Ext.set ?_ (Nat.le_refl _) _ | refine Ext.drew ?_ | refine Ext.alloc ?_ _ | refine Ext.drewN ?_ _ | refine Ext.trans ?_ (by assumption))))).mono ?_); rintro e w8 ⟨rfl, hE8⟩) | (go_at_call 9; (with_reducible refine (hkw _ (by (repeat (first | assumption | exact Ext.refl _ | refine Ext.set ?_ (Nat.le_refl _) _ | refine Ext.drew ?_ | refine Ext.alloc ?_ _ | refine Ext.drewN ?_ _ | refine Ext.trans ?_ (by assumption))))).mono ?_); rintro e w9 ⟨rfl, hE9⟩))
    go_ret
    exact ⟨rfl, hE.trans (by (repeat (first | assumption | exact Ext.refl _ | refine Ext.set ?_ (Nat.le_refl _) _ | refine Ext.drew ?_ | refine Ext.alloc ?_ _ | refine Ext.drewN ?_ _ | refine Ext.trans ?_ (by assumption))))⟩
  have d3 : decide ((24 : Int) < (t.ten.size : Int)) = false := decide_eq_false (by omega)
  have d3' : decide (24 < t.ten.size) = false := decide_eq_false h3
  by_cases h4 : 1024 < m
  · have d4 : decide ((1024 : Int) < (m : Int)) = true := decide_eq_true (by omega)
    have d4' : decide (1024 < m) = true := decide_eq_true h4
    go_enter Tryd.func7, Tryd.ntmps7
    go_upto_region 1 with fail
    rw [← hW]
    clear hW
    go_wp2_with (first | (go_at_call 8; (with_reducible refine (hlg _ (by (repeat (first | assumption | exact Ext.refl _ | refine Ext.set ?_ (Nat.le_refl _) _ | refine Ext.drew ?_ | refine Ext.alloc ?_ _ | refine Ext.drewN ?_ _ | refine Ext.trans ?_ (by assumption))))).mono ?_); rintro e w8 ⟨rfl, hE8⟩) | (go_at_call 9; (with_reducible refine (hkw _ (by (repeat (first | assumption | exact Ext.refl _ | refine Ext.set ?_ (Nat.le_refl _) _ | refine Ext.drew ?_ | refine Ext.alloc ?_ _ | refine Ext.drewN ?_ _ | refine Ext.trans ?_ (by assumption))))).mono ?_); rintro e w9 ⟨rfl, hE9⟩))
    go_ret
    exact ⟨rfl, hE.trans (by (repeat (first | assumption | exact Ext.refl _ | refine Ext.set ?_ (Nat.le_refl _) _ | refine Ext.drew ?_ | refine Ext.alloc ?_ _ | refine Ext.drewN ?_ _ | refine Ext.trans ?_ (by assumption))))⟩
  have d4 : decide ((1024 : Int) < (m : Int)) = false := decide_eq_false (by omega)
  have d4' : decide (1024 < m) = false := decide_eq_false h4
  go_enter Tryd.func7, Tryd.ntmps7
  go_upto_region 1 with fail
  rw [← hW]
  clear hW
  go_upto_region 3 with (go_at_call 8; (with_reducible refine (hlg _ (by (repeat (first | assumption | exact Ext.refl _ | refine Ext.set ?_ (Nat.le_refl _) _ | refine Ext.drew ?_ | refine Ext.alloc ?_ _ | refine Ext.drewN ?_ _ | refine Ext.trans ?_ (by assumption))))).mono ?_); rintro e w8 ⟨rfl, hE8⟩)
  go_upto_region 4 with fail
  clear hY x0 x2 hlg d1 d1' d3 d3' d4 d4'
  go_loopw [7] (fun i wr => ∃ k : Nat, k ≤ n ∧ i = .int .i64 k ∧ (∀ g ∈ t.gs.take k, g.p.size ≤ 24) ∧ Ext W wr) (fun i _ => n - (intOf i).toNat)
  case atStart => exact ⟨0, by omega, rfl, by simp, hE8⟩
  case round =>
    clear hE8
    obtain ⟨k, hkn, rfl, hsm, hwr⟩ := hrel
    have x2 := xr2 wr hwr
    by_cases hlt : k < n
    · have hln := HL.out
      obtain ⟨b, o, cs, rfl, hk', hcell⟩ := (hS.ext (hE.trans hwr)).get k (by omega)
      obtain ⟨x, hx⟩ : ∃ x, t.gs[k]? = some x := ⟨_, List.getElem?_eq_getElem (by omega)⟩
      have hxe : t.gs[k]'(by omega) = x := Option.some.inj ((List.getElem?_eq_getElem _).symm.trans hx)
      have hsm1 : x.p.size ≤ 24 → ∀ g ∈ t.gs.take (k + 1), g.p.size ≤ 24 := by
        intro hx24 g hg
        rw [List.take_succ_eq_append_getElem (by omega), hxe] at hg
        rcases List.mem_append.1 hg with h | h
        · exact hsm g h
        · simp at h; rw [h]; exact hx24
      rw [hxe] at hk'
      obtain rfl := gr_cells hk'
      have y1 : wr.cell? ⟨b, o + k * 4 + 1, none⟩ = some (.string x.p) := hcell 1 _ rfl
      clear hcell hk' hxe hx hsm hln
      by_cases hb : 24 < x.p.size
      · have db : decide (24 < x.p.size) = true := decide_eq_true hb
        have db' : decide ((24 : Int) < (x.p.size : Int)) = true := decide_eq_true (by omega)
        clear hsm1
        go_upto_region 7 with fail
        refine wp_region_lit ?_
        refine pl_call (args := ?_) Tryd.func9 (by kernel_rfl) rfl (by rfl) rfl rfl ?_ ?_
        rotate_left 1
        · go_simp; with_reducible rfl
        (with_reducible refine (hkw _ hwr).mono ?_)
        rintro e w9 ⟨rfl, hE9⟩
        refine ⟨_, _, rfl, (by simp only [Act.put, List.setIfInBounds_toArray, List.set_cons_zero, List.set_cons_succ]; rfl), ?_⟩
        iterate 1 (first | (refine pl_off (a' := ?_) rfl (by rfl) ?_ ?_; rotate_left 1; (· simp only [Act.put, List.setIfInBounds_toArray, List.set_cons_zero, List.set_cons_succ]; rfl)) | (refine pl_y (v := ?_) (a' := ?_) rfl (by rfl) ?_ ?_ ?_; rotate_left 2; (· go_simp; with_reducible rfl); (· simp only [Act.put, List.setIfInBounds_toArray, List.set_cons_zero, List.set_cons_succ]; rfl)))
        refine wpList_nil ?_
        go_wp2_with fail
        go_ret
        exact ⟨rfl, hE.trans (hwr.trans hE9)⟩
      · have db : decide (24 < x.p.size) = false := decide_eq_false hb
        have db' : decide ((24 : Int) < (x.p.size : Int)) = false := decide_eq_false (by omega)
        have hsm := hsm1 (by omega)
        clear hsm1
        go_wp2_with fail
        go_roundw
        case rel => exact ⟨k + 1, by omega, by go_num, hsm, hwr⟩
        case measure => simp [intOf]; omega
    · obtain rfl : k = n := by omega
      have hln := HL.out
      have hsm : ∀ g ∈ t.gs, g.p.size ≤ 24 := by rw [← hln, List.take_length] at hsm; exact hsm
      have hok : tokOk t := ht.okS (by omega) (by omega) hsm
      have hfit : TokFit t := ht.fit (by omega) (by omega) (fun g hg => by have := hsm g hg; omega)
      have lt0 := fun (w' : World) (h : Ext W w') => load_whole (B1.ext h) 27 _ Tryd.underlying27 rfl (by rw [szT]; kernel_rfl)
      have hG0 : GsV w t.gs (.slice A k c) := ⟨A, c, by rw [hln], hc, hS⟩
      have hput := tputL (Buf.nil wr) wr.heap.size (Nat.le_refl _) (by omega) t hfit (.slice A k c) (hG0.ext (hE.trans hwr))
      rw [HTT.out] at hput
      have lq := lt0 wr hwr
      go_upto_region 8 with fail
      refine wp_region_lit ?_
      refine pl_y (v := ?_) (a' := ?_) rfl (by rfl) ?_ ?_ ?_
      rotate_left 2
      · (refine (run_op_load rfl ?_ (lq)).trans ?_; (· rfl); (· with_reducible rfl))
      · simp only [Act.put, List.setIfInBounds_toArray, List.set_cons_zero, List.set_cons_succ]; rfl
      refine pl_call (args := ?_) Tryd.func30 (by kernel_rfl) rfl (by rfl) rfl rfl ?_ ?_
      rotate_left 1
      · go_simp; with_reducible rfl
      (with_reducible refine (hput).mono ?_)
      rintro e w8 ⟨u8, rfl, hO8, hE8⟩
      refine ⟨_, _, rfl, (by simp only [Act.put, List.setIfInBounds_toArray, List.set_cons_zero, List.set_cons_succ]; rfl), ?_⟩
      iterate 1 (first | (refine pl_off (a' := ?_) rfl (by rfl) ?_ ?_; rotate_left 1; (· simp only [Act.put, List.setIfInBounds_toArray, List.set_cons_zero, List.set_cons_succ]; rfl)) | (refine pl_y (v := ?_) (a' := ?_) rfl (by rfl) ?_ ?_ ?_; rotate_left 2; (· go_simp; with_reducible rfl); (· simp only [Act.put, List.setIfInBounds_toArray, List.set_cons_zero, List.set_cons_succ]; rfl)))
      refine wpList_nil ?_
      have hO8 := hO8.re (show [] ++ tokB t = tokB t by simp)
      obtain ⟨A8, c8, rfl, hc8, hS8⟩ := hO8.1.sl
      obtain ⟨L, hL⟩ : ∃ L, tokB t = L := ⟨_, rfl⟩
      have hLn : L.length ≤ 110000000 := by rw [← hL]; have := hO8.2.1; omega
      rw [hL] at hc8 hS8 ⊢
      have HLL := Lib.hid hL
      have hcb := copyBytes_any w8 A8 c8 L hS8 hc8 (by omega)
      have hrs := fun (w' : World) (h : Ext w8 w') (k : Nat) (hk : k ≤ L.length) => read_any w' A8 c8 (L.take k) (by rw [List.length_take, Nat.min_eq_left hk]; exact sl_take (hS8.ext h) k hk) (by rw [List.length_take, Nat.min_eq_left hk]; omega) (by rw [List.length_take]; omega)
      have hmc := fun (w' : World) (h : Ext w8 w') => b_cells (hM.ext (hE.trans (hwr.trans (hE8.trans h))))
      obtain ⟨ln, hlln⟩ : ∃ ln, L.length = ln := ⟨_, rfl⟩
      have hmo := HM.out
      rw [hlln] at hcb hLn ⊢
      have HLN := Lib.hid hlln
      clear hput lq hL hO8 hln
      go_upto_region 9 with fail
      refine wp_region_lit ?_
      iterate 1 (first | (refine pl_off (a' := ?_) rfl (by rfl) ?_ ?_; rotate_left 1; (· simp only [Act.put, List.setIfInBounds_toArray, List.set_cons_zero, List.set_cons_succ]; rfl)) | (refine pl_y (v := ?_) (a' := ?_) rfl (by rfl) ?_ ?_ ?_; rotate_left 2; (· go_simp; with_reducible rfl); (· simp only [Act.put, List.setIfInBounds_toArray, List.set_cons_zero, List.set_cons_succ]; rfl)))
      refine pl_call (args := ?_) Tryd.func32 (by kernel_rfl) rfl (by rfl) rfl rfl ?_ ?_
      rotate_left 1
      · go_simp; with_reducible rfl
      (with_reducible refine (hcb).mono ?_)
      rintro e w9 ⟨v9, rfl, hown9, hE9⟩
      refine ⟨_, _, rfl, (by simp only [Act.put, List.setIfInBounds_toArray, List.set_cons_zero, List.set_cons_succ]; rfl), ?_⟩
      iterate 1 (first | (refine pl_off (a' := ?_) rfl (by rfl) ?_ ?_; rotate_left 1; (· simp only [Act.put, List.setIfInBounds_toArray, List.set_cons_zero, List.set_cons_succ]; rfl)) | (refine pl_y (v := ?_) (a' := ?_) rfl (by rfl) ?_ ?_ ?_; rotate_left 2; (· go_simp; with_reducible rfl); (· simp only [Act.put, List.setIfInBounds_toArray, List.set_cons_zero, List.set_cons_succ]; rfl)))
      refine wpList_append_cells (news := more.flatMap encB) rfl elt_bytes (.tmp 53) (.tmp 54) rfl hown9 rfl rfl (hmc w9 hE9) ?c1 (by unfold maxLen; omega) (by omega) (by have := hE9.le; omega) ?_
      case c1 =>
        intro u hu
        obtain ⟨x, _, hx⟩ := List.mem_flatMap.1 hu
        simp [encB] at hx
        rw [hx]; rfl
      intro v10 w10 hown10 hgr10
      have hE10 : Ext w8 w10 := grown_ext2 hE9 hown9 hgr10 (Nat.le_refl _)
      rw [← List.flatMap_append, ← hlln, ← hmo, ← List.length_append] at hown10
      have hO10 : OwnB w8.heap.size w10 v10 (L ++ more) := hown10
      obtain ⟨A10, c10, rfl, hc10, hS10⟩ := hO10.sl
      have hrd := read_any w10 A10 c10 (L ++ more) hS10 hc10 (by rw [List.length_append]; omega)
      rw [List.length_append, HLN.out, hmo] at hrd
      have hEW10 : Ext W w10 := hwr.trans (hE8.trans hE10)
      refine pl_call (args := ?_) Tryd.func31 (by kernel_rfl) rfl (by rfl) rfl rfl ?_ ?_
      rotate_left 1
      · go_simp; with_reducible rfl
      (with_reducible refine (hrd).mono ?_)
      rintro e w11 ⟨g10, rfl, hR10, hg10, hg10', hE11⟩
      refine ⟨_, _, rfl, (by simp only [Act.put, List.setIfInBounds_toArray, List.set_cons_zero, List.set_cons_succ]; rfl), ?_⟩
      iterate 1 (first | (refine pl_off (a' := ?_) rfl (by rfl) ?_ ?_; rotate_left 1; (· simp only [Act.put, List.setIfInBounds_toArray, List.set_cons_zero, List.set_cons_succ]; rfl)) | (refine pl_y (v := ?_) (a' := ?_) rfl (by rfl) ?_ ?_ ?_; rotate_left 2; (· go_simp; with_reducible rfl); (· simp only [Act.put, List.setIfInBounds_toArray, List.set_cons_zero, List.set_cons_succ]; rfl)))
      refine wpList_nil ?_
      have htr := tread_any (w := w11) (lo := w10.heap.size) (g := g10) (s := (L ++ more, 0)) hR10
      have hfull : tokS (L ++ more, 0) = (t, (more, 0)) := by rw [← HLL.out]; exact tok_codec.full t more hok
      clear hrd hcb hown9 hgr10 hown10 hO10 hmc
      go_upto_region 10 with fail
      refine wp_region_lit ?_
      iterate 1 (first | (refine pl_off (a' := ?_) rfl (by rfl) ?_ ?_; rotate_left 1; (· simp only [Act.put, List.setIfInBounds_toArray, List.set_cons_zero, List.set_cons_succ]; rfl)) | (refine pl_y (v := ?_) (a' := ?_) rfl (by rfl) ?_ ?_ ?_; rotate_left 2; (· go_simp; with_reducible rfl); (· simp only [Act.put, List.setIfInBounds_toArray, List.set_cons_zero, List.set_cons_succ]; rfl)))
      refine pl_call (args := ?_) Tryd.func33 (by kernel_rfl) rfl (by rfl) rfl rfl ?_ ?_
      rotate_left 1
      · go_simp; with_reducible rfl
      (with_reducible refine (htr).mono ?_)
      rintro e w12 ⟨tx, sx, ax, hts, -, rfl, hGx, hRx, hXx⟩
      refine ⟨_, _, rfl, (by simp only [Act.put, List.setIfInBounds_toArray, List.set_cons_zero, List.set_cons_succ]; rfl), ?_⟩
      rw [hfull] at hts
      obtain ⟨rfl, rfl⟩ : t = tx ∧ (more, (0 : Int)) = sx := ⟨congrArg Prod.fst hts, congrArg Prod.snd hts⟩
      have hE12 : Ext w10 w12 := Exc.ext hE11 hXx hg10
      have hGX := hGx.mono only_cle
      obtain ⟨AX, cX, rfl, hcX, hSX⟩ := hGX
      have hGX : GsV w12 t.gs (.slice AX t.gs.length cX) := ⟨AX, cX, rfl, hcX, hSX⟩
      obtain ⟨TX, hTX⟩ : ∃ T, tokA t (.slice AX t.gs.length cX) = T := ⟨_, rfl⟩
      have szX : TX.size = 35 := by rw [← hTX]; rfl
      have oneX : TX.all (·.oneCell') = true := by rw [← hTX]; exact one_tok _ _ rfl
      rw [hTX]
      have HTX := Lib.hid hTX
      obtain ⟨w13, hst13, BX, hE13⟩ := box_row w12 27 #[.string ⟨#[]⟩, .int .i64 0, .slice none 0 0, .int .u8 0, .int .u8 0, .int .u8 0, .int .u8 0, .int .u8 0, .int .u8 0, .int .u8 0, .int .u8 0, .int .u8 0, .int .u8 0, .int .u8 0, .int .u8 0, .int .u8 0, .int .u8 0, .int .u8 0, .int .u8 0, .int .u8 0, .int .u8 0, .int .u8 0, .int .u8 0, .int .u8 0, .int .u8 0, .int .u8 0, .int .u8 0, .int .u8 0, .int .u8 0, .int .u8 0, .int .u8 0, .int .u8 0, .int .u8 0, .int .u8 0, .int .u8 0] TX (by rw [szX]; rfl) (by rw [szX]; kernel_rfl) oneX
      refine pl_v (v := ?_) (w1 := ?_) (a' := ?_) rfl (by rfl) ?_ ?_ ?_
      rotate_left 3
      · go_simp; refine ⟨?_, ?_⟩ <;> with_reducible rfl
      · simp only [Act.put, List.setIfInBounds_toArray, List.set_cons_zero, List.set_cons_succ]; rfl
      obtain ⟨gx, hgx⟩ : ∃ z, w12.heap.size = z := ⟨_, rfl⟩
      rw [hgx] at hst13 BX ⊢
      refine pl_store (by rfl) rfl (run_op_store rfl ?_ ?_ hst13) ?_
      · rfl
      · rfl
      refine wpList_nil ?_
      have hR13 : RdrS w13 w10.heap.size g10 (more, 0) := RdrAt.ext hRx hE13
      have hE813 : Ext w8 w13 := hE10.trans (hE12.trans hE13)
      have hln0 : 0 < ln := by
        have h1 : (tokB t).length = ln := by rw [HLL.out, HLN.out]
        have h2 : 0 < (tokB t).length := by unfold tokB; simp only [List.length_append, txtB_len]; omega
        omega
      have hpk := pickN cut ln hcut (by omega) hln0 w13
      clear htr hts hTX hst13 hXx hGx hSX
      go_upto_region 11 with fail
      refine wp_region_lit ?_
      iterate 4 (first | (refine pl_off (a' := ?_) rfl (by rfl) ?_ ?_; rotate_left 1; (· simp only [Act.put, List.setIfInBounds_toArray, List.set_cons_zero, List.set_cons_succ]; rfl)) | (refine pl_y (v := ?_) (a' := ?_) rfl (by rfl) ?_ ?_ ?_; rotate_left 2; (· go_simp; with_reducible rfl); (· simp only [Act.put, List.setIfInBounds_toArray, List.set_cons_zero, List.set_cons_succ]; rfl)))
      refine pl_call (args := ?_) Tryd.func34 (by kernel_rfl) rfl (by rfl) rfl rfl ?_ ?_
      rotate_left 1
      · go_simp; with_reducible rfl
      (with_reducible refine (hpk).mono ?_)
      rintro e w14 ⟨i, rfl, hi, rfl⟩
      refine ⟨_, _, rfl, (by simp only [Act.put, List.setIfInBounds_toArray, List.set_cons_zero, List.set_cons_succ]; rfl), ?_⟩
      have hsl := fun (w' : World) => run_slice_to1 (P := Tryd.prog) (w := w') elt_bytes A8 ln c8 i (by omega) (by rw [← HLN.out]; exact hc8)
      have hrd2 := hrs w13 hE813 i (by rw [HLN.out]; omega)
      rw [List.length_take, HLN.out, Nat.min_eq_left (by omega)] at hrd2
      iterate 1 (first | (refine pl_off (a' := ?_) rfl (by rfl) ?_ ?_; rotate_left 1; (· simp only [Act.put, List.setIfInBounds_toArray, List.set_cons_zero, List.set_cons_succ]; rfl)) | (refine pl_y (v := ?_) (a' := ?_) rfl (by rfl) ?_ ?_ ?_; rotate_left 2; (· go_simp; with_reducible rfl); (· simp only [Act.put, List.setIfInBounds_toArray, List.set_cons_zero, List.set_cons_succ]; rfl)))
      refine pl_call (args := ?_) Tryd.func31 (by kernel_rfl) rfl (by rfl) rfl rfl ?_ ?_
      rotate_left 1
      · go_simp; with_reducible rfl
      (with_reducible refine (hrd2).mono ?_)
      rintro e w14 ⟨g14, rfl, hR14, hg14, hg14', hE14⟩
      refine ⟨_, _, rfl, (by simp only [Act.put, List.setIfInBounds_toArray, List.set_cons_zero, List.set_cons_succ]; rfl), ?_⟩
      iterate 1 (first | (refine pl_off (a' := ?_) rfl (by rfl) ?_ ?_; rotate_left 1; (· simp only [Act.put, List.setIfInBounds_toArray, List.set_cons_zero, List.set_cons_succ]; rfl)) | (refine pl_y (v := ?_) (a' := ?_) rfl (by rfl) ?_ ?_ ?_; rotate_left 2; (· go_simp; with_reducible rfl); (· simp only [Act.put, List.setIfInBounds_toArray, List.set_cons_zero, List.set_cons_succ]; rfl)))
      refine wpList_nil ?_
      have htr2 := tread_any (w := w14) (lo := w13.heap.size) (g := g14) (s := (L.take i, 0)) hR14
      have hcutS : tokS (L.take i, 0) = (zTok, ([], 4)) := by rw [← HLL.out]; exact tok_cut t i hok (by rw [HLL.out, HLN.out]; exact hi)
      clear hrd2 hpk hsl
      go_upto_region 12 with fail
      refine wp_region_lit ?_
      iterate 1 (first | (refine pl_off (a' := ?_) rfl (by rfl) ?_ ?_; rotate_left 1; (· simp only [Act.put, List.setIfInBounds_toArray, List.set_cons_zero, List.set_cons_succ]; rfl)) | (refine pl_y (v := ?_) (a' := ?_) rfl (by rfl) ?_ ?_ ?_; rotate_left 2; (· go_simp; with_reducible rfl); (· simp only [Act.put, List.setIfInBounds_toArray, List.set_cons_zero, List.set_cons_succ]; rfl)))
      refine pl_call (args := ?_) Tryd.func33 (by kernel_rfl) rfl (by rfl) rfl rfl ?_ ?_
      rotate_left 1
      · go_simp; with_reducible rfl
      (with_reducible refine (htr2).mono ?_)
      rintro e w15 ⟨tx, sx, ax, hts, -, rfl, hGx, hRx, hXx⟩
      refine ⟨_, _, rfl, (by simp only [Act.put, List.setIfInBounds_toArray, List.set_cons_zero, List.set_cons_succ]; rfl), ?_⟩
      rw [hcutS] at hts
      obtain ⟨rfl, rfl⟩ : zTok = tx ∧ (([] : List UInt8), (4 : Int)) = sx := ⟨congrArg Prod.fst hts, congrArg Prod.snd hts⟩
      have hE15 : Ext w13 w15 := Exc.ext hE14 hXx hg14
      have hGY := hGx.mono only_cle
      obtain ⟨AY, cY, rfl, hcY, hSY⟩ := hGY
      have hGY : GsV w15 zTok.gs (.slice AY zTok.gs.length cY) := ⟨AY, cY, rfl, hcY, hSY⟩
      obtain ⟨TY, hTY⟩ : ∃ T, tokA zTok (.slice AY zTok.gs.length cY) = T := ⟨_, rfl⟩
      have szY : TY.size = 35 := by rw [← hTY]; rfl
      have oneY : TY.all (·.oneCell') = true := by rw [← hTY]; exact one_tok _ _ rfl
      rw [hTY]
      have HTY := Lib.hid hTY
      obtain ⟨w16, hst16, BY, hE16⟩ := box_row w15 27 #[.string ⟨#[]⟩, .int .i64 0, .slice none 0 0, .int .u8 0, .int .u8 0, .int .u8 0, .int .u8 0, .int .u8 0, .int .u8 0, .int .u8 0, .int .u8 0, .int .u8 0, .int .u8 0, .int .u8 0, .int .u8 0, .int .u8 0, .int .u8 0, .int .u8 0, .int .u8 0, .int .u8 0, .int .u8 0, .int .u8 0, .int .u8 0, .int .u8 0, .int .u8 0, .int .u8 0, .int .u8 0, .int .u8 0, .int .u8 0, .int .u8 0, .int .u8 0, .int .u8 0, .int .u8 0, .int .u8 0, .int .u8 0] TY (by rw [szY]; rfl) (by rw [szY]; kernel_rfl) oneY
      refine pl_v (v := ?_) (w1 := ?_) (a' := ?_) rfl (by rfl) ?_ ?_ ?_
      rotate_left 3
      · go_simp; refine ⟨?_, ?_⟩ <;> with_reducible rfl
      · simp only [Act.put, List.setIfInBounds_toArray, List.set_cons_zero, List.set_cons_succ]; rfl
      obtain ⟨gy, hgy⟩ : ∃ z, w15.heap.size = z := ⟨_, rfl⟩
      rw [hgy] at hst16 BY ⊢
      refine pl_store (by rfl) rfl (run_op_store rfl ?_ ?_ hst16) ?_
      · rfl
      · rfl
      refine wpList_nil ?_
      have hRY : RdrS w16 w13.heap.size g14 ([], 4) := RdrAt.ext hRx hE16
      have hE1316 : Ext w13 w16 := hE15.trans hE16
      have hRX : RdrS w16 w10.heap.size g10 (more, 0) := RdrAt.ext hR13 hE1316
      have hEW16 : Ext W w16 := hEW10.trans (hE12.trans (hE13.trans hE1316))
      have lx := load_whole (BX.ext hE1316) 27 _ Tryd.underlying27 rfl (by rw [szX]; kernel_rfl)
      have lt := lt0 w16 hEW16
      have ly := fun (w' : World) (h : Ext w16 w') => load_whole (BY.ext h) 27 _ Tryd.underlying27 rfl (by rw [szY]; kernel_rfl)
      have hs1 := sameToken_any w16 t _ _ (hGX.ext (hE13.trans hE1316)) (hG0.ext (hE.trans hEW16)) (by have := HL.out; omega)
      have hs2 := fun (w' : World) (h : Ext w16 w') => sameToken_any w' zTok _ _ (hGY.ext (hE16.trans h)) (GsV.nil w') (by decide)
      rw [HTX.out, HTT.out] at hs1
      rw [HTY.out, show tokA zTok (.slice none 0 0) = #[.string ⟨#[]⟩, .int .i64 0, .slice none 0 0, .int .u8 0, .int .u8 0, .int .u8 0, .int .u8 0, .int .u8 0, .int .u8 0, .int .u8 0, .int .u8 0, .int .u8 0, .int .u8 0, .int .u8 0, .int .u8 0, .int .u8 0, .int .u8 0, .int .u8 0, .int .u8 0, .int .u8 0, .int .u8 0, .int .u8 0, .int .u8 0, .int .u8 0, .int .u8 0, .int .u8 0, .int .u8 0, .int .u8 0, .int .u8 0, .int .u8 0, .int .u8 0, .int .u8 0, .int .u8 0, .int .u8 0, .int .u8 0] from rfl] at hs2
      have hlf := fun (w' : World) (h : Ext w16 w') => left_any w' _ _ _ _ (RdrAt.ext hRX h)
      have hb1 := fun (w' : World) (h : Ext w16 w') => bad_any w' _ _ _ _ (RdrAt.ext hRX h)
      have hb2 := fun (w' : World) (h : Ext w16 w') => bad_any w' _ _ _ _ (RdrAt.ext hRY h)
      have he2 := fun (w' : World) (h : Ext w16 w') => end_any w' _ _ _ _ (RdrAt.ext hRY h)
      simp only at hlf hb1 hb2 he2
      rw [hmo] at hlf
      have k0 : ((0 : Int) != 0) = false := rfl
      have k4 : ((4 : Int) != 0) = true := rfl
      rw [k0] at hb1
      rw [k4] at hb2
      rw [show (if 0 < ([] : List UInt8).length then (5 : Int) else 4) = 4 from rfl] at he2
      clear hts hXx hGx hSY htr2 hst16 hTY hrs hfull hcutS
      go_upto_region 13 with fail
      refine wp_region_lit ?_
      refine pl_y (v := ?_) (a' := ?_) rfl (by rfl) ?_ ?_ ?_
      rotate_left 2
      · (refine (run_op_load rfl ?_ (lx)).trans ?_; (· rfl); (· with_reducible rfl))
      · simp only [Act.put, List.setIfInBounds_toArray, List.set_cons_zero, List.set_cons_succ]; rfl
      refine pl_y (v := ?_) (a' := ?_) rfl (by rfl) ?_ ?_ ?_
      rotate_left 2
      · (refine (run_op_load rfl ?_ (lt)).trans ?_; (· rfl); (· with_reducible rfl))
      · simp only [Act.put, List.setIfInBounds_toArray, List.set_cons_zero, List.set_cons_succ]; rfl
      refine pl_call (args := ?_) Tryd.func16 (by kernel_rfl) rfl (by rfl) rfl rfl ?_ ?_
      rotate_left 1
      · go_simp; with_reducible rfl
      (with_reducible refine (hs1).mono ?_)
      rintro e w17 ⟨rfl, hE17⟩
      refine ⟨_, _, rfl, (by simp only [Act.put, List.setIfInBounds_toArray, List.set_cons_zero, List.set_cons_succ]; rfl), ?_⟩
      iterate 2 (first | (refine pl_off (a' := ?_) rfl (by rfl) ?_ ?_; rotate_left 1; (· simp only [Act.put, List.setIfInBounds_toArray, List.set_cons_zero, List.set_cons_succ]; rfl)) | (refine pl_y (v := ?_) (a' := ?_) rfl (by rfl) ?_ ?_ ?_; rotate_left 2; (· go_simp; with_reducible rfl); (· simp only [Act.put, List.setIfInBounds_toArray, List.set_cons_zero, List.set_cons_succ]; rfl)))
      refine pl_call (args := ?_) Tryd.func35 (by kernel_rfl) rfl (by rfl) rfl rfl ?_ ?_
      rotate_left 1
      · go_simp; with_reducible rfl
      (with_reducible refine (hlf w17 hE17).mono ?_)
      rintro e w18 ⟨rfl, rfl⟩
      refine ⟨_, _, rfl, (by simp only [Act.put, List.setIfInBounds_toArray, List.set_cons_zero, List.set_cons_succ]; rfl), ?_⟩
      iterate 6 (first | (refine pl_off (a' := ?_) rfl (by rfl) ?_ ?_; rotate_left 1; (· simp only [Act.put, List.setIfInBounds_toArray, List.set_cons_zero, List.set_cons_succ]; rfl)) | (refine pl_y (v := ?_) (a' := ?_) rfl (by rfl) ?_ ?_ ?_; rotate_left 2; (· go_simp; with_reducible rfl); (· simp only [Act.put, List.setIfInBounds_toArray, List.set_cons_zero, List.set_cons_succ]; rfl)))
      refine pl_call (args := ?_) Tryd.func36 (by kernel_rfl) rfl (by rfl) rfl rfl ?_ ?_
      rotate_left 1
      · go_simp; with_reducible rfl
      (with_reducible refine (hb1 w17 hE17).mono ?_)
      rintro e w18 ⟨rfl, rfl⟩
      refine ⟨_, _, rfl, (by simp only [Act.put, List.setIfInBounds_toArray, List.set_cons_zero, List.set_cons_succ]; rfl), ?_⟩
      iterate 4 (first | (refine pl_off (a' := ?_) rfl (by rfl) ?_ ?_; rotate_left 1; (· simp only [Act.put, List.setIfInBounds_toArray, List.set_cons_zero, List.set_cons_succ]; rfl)) | (refine pl_y (v := ?_) (a' := ?_) rfl (by rfl) ?_ ?_ ?_; rotate_left 2; (· go_simp; with_reducible rfl); (· simp only [Act.put, List.setIfInBounds_toArray, List.set_cons_zero, List.set_cons_succ]; rfl)))
      refine pl_call (args := ?_) Tryd.func36 (by kernel_rfl) rfl (by rfl) rfl rfl ?_ ?_
      rotate_left 1
      · go_simp; with_reducible rfl
      (with_reducible refine (hb2 w17 hE17).mono ?_)
      rintro e w18 ⟨rfl, rfl⟩
      refine ⟨_, _, rfl, (by simp only [Act.put, List.setIfInBounds_toArray, List.set_cons_zero, List.set_cons_succ]; rfl), ?_⟩
      iterate 3 (first | (refine pl_off (a' := ?_) rfl (by rfl) ?_ ?_; rotate_left 1; (· simp only [Act.put, List.setIfInBounds_toArray, List.set_cons_zero, List.set_cons_succ]; rfl)) | (refine pl_y (v := ?_) (a' := ?_) rfl (by rfl) ?_ ?_ ?_; rotate_left 2; (· go_simp; with_reducible rfl); (· simp only [Act.put, List.setIfInBounds_toArray, List.set_cons_zero, List.set_cons_succ]; rfl)))
      refine pl_call (args := ?_) Tryd.func37 (by kernel_rfl) rfl (by rfl) rfl rfl ?_ ?_
      rotate_left 1
      · go_simp; with_reducible rfl
      (with_reducible refine (he2 w17 hE17).mono ?_)
      rintro e w18 ⟨rfl, rfl⟩
      refine ⟨_, _, rfl, (by simp only [Act.put, List.setIfInBounds_toArray, List.set_cons_zero, List.set_cons_succ]; rfl), ?_⟩
      iterate 3 (first | (refine pl_off (a' := ?_) rfl (by rfl) ?_ ?_; rotate_left 1; (· simp only [Act.put, List.setIfInBounds_toArray, List.set_cons_zero, List.set_cons_succ]; rfl)) | (refine pl_y (v := ?_) (a' := ?_) rfl (by rfl) ?_ ?_ ?_; rotate_left 2; (· go_simp; with_reducible rfl); (· simp only [Act.put, List.setIfInBounds_toArray, List.set_cons_zero, List.set_cons_succ]; rfl)))
      have ly2 := ly w17 hE17
      refine pl_y (v := ?_) (a' := ?_) rfl (by rfl) ?_ ?_ ?_
      rotate_left 2
      · (refine (run_op_load rfl ?_ (ly2)).trans ?_; (· rfl); (· with_reducible rfl))
      · simp only [Act.put, List.setIfInBounds_toArray, List.set_cons_zero, List.set_cons_succ]; rfl
      iterate 1 (first | (refine pl_off (a' := ?_) rfl (by rfl) ?_ ?_; rotate_left 1; (· simp only [Act.put, List.setIfInBounds_toArray, List.set_cons_zero, List.set_cons_succ]; rfl)) | (refine pl_y (v := ?_) (a' := ?_) rfl (by rfl) ?_ ?_ ?_; rotate_left 2; (· go_simp; with_reducible rfl); (· simp only [Act.put, List.setIfInBounds_toArray, List.set_cons_zero, List.set_cons_succ]; rfl)))
      refine pl_call (args := ?_) Tryd.func16 (by kernel_rfl) rfl (by rfl) rfl rfl ?_ ?_
      rotate_left 1
      · go_simp; with_reducible rfl
      (with_reducible refine (hs2 w17 hE17).mono ?_)
      rintro e w18 ⟨rfl, hE18⟩
      refine ⟨_, _, rfl, (by simp only [Act.put, List.setIfInBounds_toArray, List.set_cons_zero, List.set_cons_succ]; rfl), ?_⟩
      iterate 2 (first | (refine pl_off (a' := ?_) rfl (by rfl) ?_ ?_; rotate_left 1; (· simp only [Act.put, List.setIfInBounds_toArray, List.set_cons_zero, List.set_cons_succ]; rfl)) | (refine pl_y (v := ?_) (a' := ?_) rfl (by rfl) ?_ ?_ ?_; rotate_left 2; (· go_simp; with_reducible rfl); (· simp only [Act.put, List.setIfInBounds_toArray, List.set_cons_zero, List.set_cons_succ]; rfl)))
      refine pl_call (args := ?_) Tryd.func9 (by kernel_rfl) rfl (by rfl) rfl rfl ?_ ?_
      rotate_left 1
      · go_simp; with_reducible rfl
      (with_reducible refine (hkw w18 (hEW16.trans (hE17.trans hE18))).mono ?_)
      rintro e w19 ⟨rfl, hE19⟩
      refine ⟨_, _, rfl, (by simp only [Act.put, List.setIfInBounds_toArray, List.set_cons_zero, List.set_cons_succ]; rfl), ?_⟩
      iterate 2 (first | (refine pl_off (a' := ?_) rfl (by rfl) ?_ ?_; rotate_left 1; (· simp only [Act.put, List.setIfInBounds_toArray, List.set_cons_zero, List.set_cons_succ]; rfl)) | (refine pl_y (v := ?_) (a' := ?_) rfl (by rfl) ?_ ?_ ?_; rotate_left 2; (· go_simp; with_reducible rfl); (· simp only [Act.put, List.setIfInBounds_toArray, List.set_cons_zero, List.set_cons_succ]; rfl)))
      refine wpList_nil ?_
      go_wp2_with fail
      go_ret
      exact ⟨rfl, hE.trans (hEW16.trans (hE17.trans (hE18.trans hE19)))⟩
theorem tback_row (w : World) (hT : TabAt w) (t : Tok) (l : List Value) (hG : ∃ a, l = (tokA t a).toList ∧ GsV w t.gs a) (ht : TokCome t) (A' : Option Addr) (c' : Nat) (more : List UInt8) (hM : Rd.u8.Sl w A' more.length more) (hMc : more.length ≤ c') (hMn : more.length ≤ 140737488351232) (cut : Int) (hcut : intOk cut) :
    Calls Tryd.prog 7 #[.agg ⟨l⟩, .slice A' more.length c', .int .i64 cut] w fun e w' => e = .returned (.bool true) ∧ Ext w w' := by
  obtain ⟨a, rfl, hG⟩ := hG
  exact tback_walk w hT t a hG ht A' c' more hM hMc hMn cut hcut
end Go.Proofs.YtjcpgjnogcmalaaDoor

/-! Tokens as data: what a law is given, opened; a world that holds the tables. -/
namespace Go.Proofs.YtjcpgjnogcmalaaDoor
set_option linter.unusedVariables false
set_option linter.unusedSimpArgs false
open Go.RowKit
def rdTok : Rd Tok := (Rd.pair Rd.str (Rd.pair (Rd.int .i64) (Rd.pair (Rd.slice rdGr) (Rd.arr 32 Rd.u8)))).iso fun x => (x.ten, x.id, x.gs, x.mac)
theorem opens_bytes : Opens Tryd.prog 40 (Rd.slice Rd.u8) := opens_slice Tryd.underlying40 (by kernel_rfl) (opens_u8 Tryd.underlying5 (by kernel_rfl)) (by decide) (of_decide_eq_true (by kernel_rfl))
theorem opens_i : Opens Tryd.prog 3 (Rd.int .i64) := opens_int Tryd.underlying3 (by kernel_rfl)
theorem opens_s : Opens Tryd.prog 9 Rd.str := opens_str Tryd.underlying9 (by kernel_rfl)
theorem opens_sum : Opens Tryd.prog 25 (Rd.arr 32 Rd.u8) := opens_arr Tryd.underlying25 (by kernel_rfl) (opens_u8 Tryd.underlying5 (by kernel_rfl))
theorem opens_key : Opens Tryd.prog 23 (Rd.arr 32 Rd.u8) := opens_arr Tryd.underlying23 (by kernel_rfl) (opens_u8 Tryd.underlying5 (by kernel_rfl))
theorem opens_gr : Opens Tryd.prog 35 rdGr :=
  opens_struct (fun x : Grant => (x.r, x.p, x.x, x.u)) (fun p => ⟨p.1, p.2.1, p.2.2.1, p.2.2.2⟩) (fun _ => rfl) Tryd.underlying35 (by kernel_rfl) (opensFs_cons rfl opens_i (opensFs_cons rfl opens_s (opensFs_cons rfl (opens_bool Tryd.underlying4 (by kernel_rfl)) (opensFs_one rfl opens_i))))
theorem opens_grs : Opens Tryd.prog 24 (Rd.slice rdGr) := opens_slice Tryd.underlying24 (by kernel_rfl) opens_gr (by decide) (of_decide_eq_true (by kernel_rfl))
theorem opens_tok : Opens Tryd.prog 27 rdTok :=
  opens_struct (fun x : Tok => (x.ten, x.id, x.gs, x.mac)) (fun p => ⟨p.1, p.2.1, p.2.2.1, p.2.2.2⟩) (fun _ => rfl) Tryd.underlying27 (by kernel_rfl)
    (opensFs_cons rfl opens_s (opensFs_cons rfl opens_i (opensFs_cons rfl (opens_slice Tryd.underlying24 (by kernel_rfl) opens_gr (by decide) (of_decide_eq_true (by kernel_rfl))) (opensFs_one rfl opens_sum))))
theorem tok_cells {w : World} {t : Tok} {cs : List Value} (h : rdTok.K w t cs) : (∃ a, cs = (tokA t a).toList ∧ GsV w t.gs a) ∧ t.mac.length = 32 := by
  obtain ⟨_, _, rfl, rfl, _, _, rfl, rfl, _, _, rfl, ⟨A, c, rfl, hl, hS⟩, h⟩ := h
  obtain ⟨e, hm⟩ := arr_mac h
  exact ⟨⟨_, by rw [e]; rfl, A, c, rfl, hl, hS⟩, hm⟩
theorem tok_agg {w : World} {t : Tok} {l : List Value} (h : rdTok.K w t (Value.agg ⟨l⟩).cells.toList) : (∃ a, l = (tokA t a).toList ∧ GsV w t.gs a) ∧ t.mac.length = 32 := tok_cells h
theorem key_agg {w : World} {k : List UInt8} {l : List Value} (h : (Rd.arr 32 Rd.u8).K w k (Value.agg ⟨l⟩).cells.toList) : l = (macA k).toList ∧ k.length = 32 := arr_mac h
structure Mde where
  root : List UInt8
  ten : ByteArray
  id : Int
  gs : List Grant
def rdMade : Rd Mde := (Rd.pair (Rd.arr 32 Rd.u8) (Rd.pair Rd.str (Rd.pair (Rd.int .i64) (Rd.slice rdGr)))).iso fun x => (x.root, x.ten, x.id, x.gs)
theorem opens_made : Opens Tryd.prog 54 rdMade :=
  opens_struct (fun x : Mde => (x.root, x.ten, x.id, x.gs)) (fun p => ⟨p.1, p.2.1, p.2.2.1, p.2.2.2⟩) (fun _ => rfl) Tryd.underlying54 (by kernel_rfl)
    (opensFs_cons rfl opens_key (opensFs_cons rfl opens_s (opensFs_cons rfl opens_i (opensFs_one rfl opens_grs))))
def madeA (x : Mde) (a : Value) : Array Value := ((macA x.root).toList ++ [Value.string x.ten, Value.int .i64 x.id, a]).toArray
theorem made_agg {w : World} {x : Mde} {l : List Value} (h : rdMade.K w x (Value.agg ⟨l⟩).cells.toList) : (∃ a, l = (madeA x a).toList ∧ GsV w x.gs a) ∧ x.root.length = 32 := by
  obtain ⟨_, _, e, h1, _, _, rfl, rfl, _, _, rfl, rfl, A, c, rfl, hl, hS⟩ := h
  obtain ⟨e1, hm⟩ := arr_mac h1
  exact ⟨⟨_, by rw [show l = _ from e, e1]; simp [madeA], A, c, rfl, hl, hS⟩, hm⟩
theorem wf_int (x : Int) : (Lit.int .i64 x).wf = true ↔ intOk x := by
  simp [Lit.wf, IntKind.min, IntKind.max, IntKind.signed, IntKind.bits, intOk]
theorem tokCome_of {t : Tok} (h : rdTok.ok reachBytes t) (hm : t.mac.length = 32) : TokCome t := by
  obtain ⟨h0, h1, ⟨h2, h3⟩, -⟩ := h
  exact ⟨h2, (wf_int _).1 h1, fun g hg => ⟨(wf_int _).1 (h3 g hg).1, (wf_int _).1 (h3 g hg).2.2.2⟩, hm⟩
def zsK : List Int := [1116352408, 1899447441, 3049323471, 3921009573, 961987163, 1508970993, 2453635748, 2870763221, 3624381080, 310598401, 607225278, 1426881987, 1925078388, 2162078206, 2614888103, 3248222580, 3835390401, 4022224774, 264347078, 604807628, 770255983, 1249150122, 1555081692, 1996064986, 2554220882, 2821834349, 2952996808, 3210313671, 3336571891, 3584528711, 113926993, 338241895, 666307205, 773529912, 1294757372, 1396182291, 1695183700, 1986661051, 2177026350, 2456956037, 2730485921, 2820302411, 3259730800, 3345764771, 3516065817, 3600352804, 4094571909, 275423344, 430227734, 506948616, 659060556, 883997877, 958139571, 1322822218, 1537002063, 1747873779, 1955562222, 2024104815, 2227730452, 2361852424, 2428436474, 2756734187, 3204031479, 3329325298]
def zsB : List Int := [1779033703, 3144134277, 1013904242, 2773480762, 1359893119, 2600822924, 528734635, 1541459225]
theorem zsK_is : zsK = shaK.map fun x => (x.toNat : Int) := by kernel_rfl
theorem tabAt_of {W : World} {rest : List (String × DataW Unit)} (hL : laidMet Tryd.prog (("sealery/sha.begins", Rows.laid_sealery_sha_begins) :: ("sealery/sha.k", Rows.laid_sealery_sha_k) :: rest) W) : TabAt W := by
  have hb := Lib.tabIs_of_head (P := Tryd.prog) (k := .u32) (zs := zsB) (g := 0) (t := 121) (by kernel_rfl) (by kernel_rfl) Tryd.underlying121 Tryd.underlying116 (by kernel_rfl) (by kernel_rfl) hL
  have hk := Lib.tabIs_of_head (P := Tryd.prog) (k := .u32) (zs := zsK) (g := 1) (t := 133) (by kernel_rfl) (by kernel_rfl) Tryd.underlying133 Tryd.underlying116 (by kernel_rfl) (by kernel_rfl) (laidMet.tail hL)
  refine ⟨fun t ht => ?_, fun t ht => ?_⟩
  · rw [hk.cell (g := 1) (by kernel_rfl) t (show t < zsK.length from ht), zsK_is]
    have h64 : t < shaK.length := ht
    simp [u3, List.getD, h64]
  · rw [hb.cell (g := 0) (by kernel_rfl) t (show t < zsB.length from ht)]
    have : t = 0 ∨ t = 1 ∨ t = 2 ∨ t = 3 ∨ t = 4 ∨ t = 5 ∨ t = 6 ∨ t = 7 := by omega
    rcases this with rfl | rfl | rfl | rfl | rfl | rfl | rfl | rfl <;> rfl
def zKYW : Array Value := #[.int .u8 0, .int .u8 0, .int .u8 0, .int .u8 0, .int .u8 0, .int .u8 0, .int .u8 0, .int .u8 0, .int .u8 0, .int .u8 0, .int .u8 0, .int .u8 0, .int .u8 0, .int .u8 0, .int .u8 0, .int .u8 0, .int .u8 0, .int .u8 0, .int .u8 0, .int .u8 0, .int .u8 0, .int .u8 0, .int .u8 0, .int .u8 0, .int .u8 0, .int .u8 0, .int .u8 0, .int .u8 0, .int .u8 0, .int .u8 0, .int .u8 0, .int .u8 0]
def zKYD {H : Type} : DataW H := .agg [.lit (.int .u8 0), .lit (.int .u8 0), .lit (.int .u8 0), .lit (.int .u8 0), .lit (.int .u8 0), .lit (.int .u8 0), .lit (.int .u8 0), .lit (.int .u8 0), .lit (.int .u8 0), .lit (.int .u8 0), .lit (.int .u8 0), .lit (.int .u8 0), .lit (.int .u8 0), .lit (.int .u8 0), .lit (.int .u8 0), .lit (.int .u8 0), .lit (.int .u8 0), .lit (.int .u8 0), .lit (.int .u8 0), .lit (.int .u8 0), .lit (.int .u8 0), .lit (.int .u8 0), .lit (.int .u8 0), .lit (.int .u8 0), .lit (.int .u8 0), .lit (.int .u8 0), .lit (.int .u8 0), .lit (.int .u8 0), .lit (.int .u8 0), .lit (.int .u8 0), .lit (.int .u8 0), .lit (.int .u8 0)]
def zTKW : Array Value := #[.string ⟨#[]⟩, .int .i64 0, .slice none 0 0, .int .u8 0, .int .u8 0, .int .u8 0, .int .u8 0, .int .u8 0, .int .u8 0, .int .u8 0, .int .u8 0, .int .u8 0, .int .u8 0, .int .u8 0, .int .u8 0, .int .u8 0, .int .u8 0, .int .u8 0, .int .u8 0, .int .u8 0, .int .u8 0, .int .u8 0, .int .u8 0, .int .u8 0, .int .u8 0, .int .u8 0, .int .u8 0, .int .u8 0, .int .u8 0, .int .u8 0, .int .u8 0, .int .u8 0, .int .u8 0, .int .u8 0, .int .u8 0]
def zTKD {H : Type} : DataW H := .agg [.lit (.string []), .lit (.int .i64 0), .nil, .agg [.lit (.int .u8 0), .lit (.int .u8 0), .lit (.int .u8 0), .lit (.int .u8 0), .lit (.int .u8 0), .lit (.int .u8 0), .lit (.int .u8 0), .lit (.int .u8 0), .lit (.int .u8 0), .lit (.int .u8 0), .lit (.int .u8 0), .lit (.int .u8 0), .lit (.int .u8 0), .lit (.int .u8 0), .lit (.int .u8 0), .lit (.int .u8 0), .lit (.int .u8 0), .lit (.int .u8 0), .lit (.int .u8 0), .lit (.int .u8 0), .lit (.int .u8 0), .lit (.int .u8 0), .lit (.int .u8 0), .lit (.int .u8 0), .lit (.int .u8 0), .lit (.int .u8 0), .lit (.int .u8 0), .lit (.int .u8 0), .lit (.int .u8 0), .lit (.int .u8 0), .lit (.int .u8 0), .lit (.int .u8 0)]]
def zMDW : Array Value := #[.int .u8 0, .int .u8 0, .int .u8 0, .int .u8 0, .int .u8 0, .int .u8 0, .int .u8 0, .int .u8 0, .int .u8 0, .int .u8 0, .int .u8 0, .int .u8 0, .int .u8 0, .int .u8 0, .int .u8 0, .int .u8 0, .int .u8 0, .int .u8 0, .int .u8 0, .int .u8 0, .int .u8 0, .int .u8 0, .int .u8 0, .int .u8 0, .int .u8 0, .int .u8 0, .int .u8 0, .int .u8 0, .int .u8 0, .int .u8 0, .int .u8 0, .int .u8 0, .string ⟨#[]⟩, .int .i64 0, .slice none 0 0]
def zMDD {H : Type} : DataW H := .agg [.agg [.lit (.int .u8 0), .lit (.int .u8 0), .lit (.int .u8 0), .lit (.int .u8 0), .lit (.int .u8 0), .lit (.int .u8 0), .lit (.int .u8 0), .lit (.int .u8 0), .lit (.int .u8 0), .lit (.int .u8 0), .lit (.int .u8 0), .lit (.int .u8 0), .lit (.int .u8 0), .lit (.int .u8 0), .lit (.int .u8 0), .lit (.int .u8 0), .lit (.int .u8 0), .lit (.int .u8 0), .lit (.int .u8 0), .lit (.int .u8 0), .lit (.int .u8 0), .lit (.int .u8 0), .lit (.int .u8 0), .lit (.int .u8 0), .lit (.int .u8 0), .lit (.int .u8 0), .lit (.int .u8 0), .lit (.int .u8 0), .lit (.int .u8 0), .lit (.int .u8 0), .lit (.int .u8 0), .lit (.int .u8 0)], .lit (.string []), .lit (.int .i64 0), .nil]
/-- The settled world, its tables holding what their initialisers lay. -/
noncomputable def laidWorld (os : Os) : World :=
  let w := World.holding Tryd.prog os ⟨#[], #[], []⟩
  { w with heap := (((w.heap.modify 3 fun
      | .cells _ t frozen => .cells ((Go.Pinned.utf8FirstZ.map fun (z : Nat) => Value.int .u8 (z : Int)).toArray) t frozen
      | o => o).modify 4 fun
      | .cells _ t frozen => .cells (((([128, 191, 160, 191, 128, 159, 144, 191, 128, 143] ++ List.replicate 22 0) : List Int).map fun z => Value.int .u8 z).toArray) t frozen
      | o => o).modify 0 fun
      | .cells _ t frozen => .cells ((zsB.map fun z => Value.int .u32 z).toArray) t frozen
      | o => o).modify 1 fun
      | .cells _ t frozen => .cells ((zsK.map fun z => Value.int .u32 z).toArray) t frozen
      | o => o }
end Go.Proofs.YtjcpgjnogcmalaaDoor
