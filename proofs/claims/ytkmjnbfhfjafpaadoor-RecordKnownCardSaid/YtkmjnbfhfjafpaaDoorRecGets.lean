/- The law RecordGets, walked. -/
import Derived.Test.YtkmjnbfhfjafpaaDoorRecPuts
namespace Go.Proofs.YtkmjnbfhfjafpaaDoor
set_option linter.unusedVariables false
set_option linter.unusedSimpArgs false
open Go.RowKit
theorem wpList_slice_to {P : Program} {t e : TypeId} {sz bytes : Nat} {w : World} {ops : Array Oper} {rest : List Oper} {o : Oper} {a : Act} {Q : Exit → Act → World → Prop} (hgd : o.guard = none) (E : Elt P t e sz bytes) (x y : Operand) (ho : o.op = .slice t x none (some y) none)
    (A : Option Addr) (n c i : Nat) (hx : a.eval x = .slice A n c) (hy : a.eval y = .int .i64 (i : Int)) (h : i ≤ n) (hc : n ≤ c) (k : wpList P ops Q rest (a.put o.dst (.slice A i c)) w) : wpList P ops Q (o :: rest) a w :=
  wpList_plain hgd fun K hK => by
    obtain ⟨inf, z, hi', hz, hsz, hby, hzc⟩ := E.hi
    have h0 := E.ht
    have he : P.elem t = e := by simp [Program.elem, h0]
    have h2 : P.underlying t = some (.slice (P.elem t)) := by rw [he]; exact h0
    have hr : (Instr.sliceAt t (.slice A n c) none (some (.int .i64 (i : Int))) none).run P w = .ok (.slice A i c) w := by
      rw [run_sliceAt_slice _ t _ _ _ _ h2, run_slice_h _ t A n c h2 .i64 i (by omega) (by omega), he]
      simp [sizeOf, typeInfo, hi', hsz, sliced, Result.andThen, Addr.add]
    unfold Oper.wp execOp
    simp [ho, hx, hy, hr, Oper.upon]
    exact hK _ _ k
theorem sl_pre {α : Type} {d : Rd α} {w : World} {A : Option Addr} {n m : Nat} {xs ys : List α} (h : d.Sl w A n (xs ++ ys)) (hm : xs.length = m) : d.Sl w A m xs := by
  subst hm
  refine ⟨rfl, fun h0 => ?_⟩
  have hn := h.1
  rw [List.length_append] at hn
  obtain ⟨b, o, e, hc⟩ := h.2 (by omega)
  refine ⟨b, o, e, fun i hi => ?_⟩
  have := hc i (by rw [List.length_append]; omega)
  rwa [List.getElem_append_left hi] at this
set_option maxHeartbeats 9000000 in
set_option maxRecDepth 100000 in
theorem gets_walk (w : World) (A : Option Addr) (c : Nat) (l : List UInt8) (hS : Rd.u8.Sl w A l.length l) (hc : l.length ≤ c) (hn : l.length ≤ 140737488351232) :
    Calls Tryd.prog 4 #[.slice A l.length c] w fun e w' => e = .returned (.bool true) ∧ Ext w w' := by
  have hwo := works_any
  obtain ⟨n, hln⟩ : ∃ n, l.length = n := ⟨_, rfl⟩
  by_cases hbig : 8192 < n
  · rw [hln] at hc hn ⊢
    go_enter Tryd.func4, Tryd.ntmps4
    go_wp2_with (go_at_call 10; (with_reducible refine (hwo _).mono ?_); rintro e w2 ⟨rfl, hE2⟩)
    go_ret
    exact ⟨rfl, hE2⟩
  · have hle : lentBytes_any w A c l hS hc (by omega) = lentBytes_any w A c l hS hc (by omega) := rfl
    have hlb := lentBytes_any w A c l hS hc (by omega)
    obtain ⟨⟨r, v⟩, hg⟩ : ∃ p, getG l = p := ⟨_, rfl⟩
    have hfit := get_fit l
    rw [hg] at hfit
    have hfit : RecFit r := hfit
    have hget := fun (w' : World) A1 c1 (h1 : Rd.u8.Sl w' A1 n l) (h2 : n ≤ c1) => ((by
      have h := get_any w' A1 c1 l (by rw [hln]; exact h1) (by rw [hln]; exact h2) (by omega)
      rw [hln] at h
      exact h.mono fun _ _ hh => get_is hg hh) : Calls Tryd.prog 20 #[.slice A1 n c1] w' _)
    have hrget := fun (w' : World) (h1 : Ext w w') => ((by
      have h := rget_any w' A c l (hS.ext h1) hc (by omega)
      rw [hln] at h
      exact h.mono fun _ _ hh => get_is hg hh) : Calls Tryd.prog 21 #[.slice A n c] w' _)
    have hsl := hfit.11
    have hsr := fun (w' : World) A1 c1 A2 c2 h1 h2 h3 h4 => sameRecord_any w' r r A1 c1 h1 h2 (by omega) (fun x hx => by have := hsl.2 x hx; omega) A2 c2 h3 h4
    rw [recEq_refl] at hsr
    have hsp := fun (w' : World) lo hi hh A1 c1 h1 h2 => spoilRecord_any w' lo hi hh r A1 c1 h1 h2 (by omega) (fun x hx => by have := hsl.2 x hx; omega)
    have hkb := fun (w' : World) (h : Ext w w') A1 c1 h1 h2 h3 => keptBytes_any w' A c l (hS.ext h) hc (by omega) A1 c1 h1 h2 h3
    obtain ⟨k, hk⟩ : ∃ k, r.sealed.length = k := ⟨_, rfl⟩
    rw [hk] at hsr hsp hget hrget
    rw [hln] at hlb hkb hc ⊢
    clear hS hg hle hfit hn hsl
    go_enter Tryd.func4, Tryd.ntmps4
    go_upto_region 4 with (go_at_call 19; (with_reducible refine hlb.mono ?_); rintro e w1 ⟨v1, rfl, hown, hE1⟩)
    obtain ⟨A1, c1, rfl, h1c, h1m, h1S⟩ := own_bytes (lo := w.heap.size) (hi := w1.heap.size) (l := l ++ marksB 5) (by rw [List.length_append, marksB_len, hln]; exact hown) (Nat.le_refl _) (Nat.le_refl _)
    have hl5 : (l ++ marksB 5).length = n + 5 := by rw [List.length_append, marksB_len, hln]
    rw [hl5] at h1c h1S ⊢
    have hpre := sl_pre (h1S.mono only_cle) hln
    have hn5 : n ≤ n + 5 := by omega
    have hnc : n ≤ c1 := by omega
    clear hown hlb hl5
    go_upto_region 5 with (first | (refine wpList_slice_to rfl elt_bytes (.tmp 17) (.tmp 19) rfl A1 (n + 5) c1 n rfl rfl hn5 h1c ?_) | (go_at_call 20; (with_reducible refine (hget _ _ _ hpre hnc).mono ?_); rintro e w2 ⟨A2, k2, c2, rfl, hk2, hc2, hS2, hE2⟩))
    obtain rfl : k = k2 := hk2
    obtain ⟨V2, hV2, hEV2, -⟩ := box1 w2 #[.string r.ten, .int .i64 r.clock, .int .i64 r.kind, .int .i64 r.code, .int .i64 r.id, .string r.st, .string r.su, .int .i64 r.slot, .int .i64 r.uses, .int .i64 r.num, .slice A2 k c2] 25
    have D2 : Blk V2 w2.heap.size 25 #[.string r.ten, .int .i64 r.clock, .int .i64 r.kind, .int .i64 r.code, .int .i64 r.id, .string r.st, .string r.su, .int .i64 r.slot, .int .i64 r.uses, .int .i64 r.num, .slice A2 k c2] := by rw [hV2]; exact Blk.new _ _ _
    rw [← hV2]
    clear hV2
    have hpre := hpre.ext (hE2.trans hEV2)
    go_upto_region 6 with (first | (refine wpList_slice_to rfl elt_bytes (.tmp 25) (.tmp 27) rfl A1 (n + 5) c1 n rfl rfl hn5 h1c ?_) | (go_at_call 20; (with_reducible refine (hget _ _ _ hpre hnc).mono ?_); rintro e w3 ⟨A3, k3, c3, rfl, hk3, hc3, hS3, hE3⟩))
    obtain rfl : k = k3 := hk3
    obtain ⟨V3, hV3, hEV3, -⟩ := box1 w3 #[.string r.ten, .int .i64 r.clock, .int .i64 r.kind, .int .i64 r.code, .int .i64 r.id, .string r.st, .string r.su, .int .i64 r.slot, .int .i64 r.uses, .int .i64 r.num, .slice A3 k c3] 25
    have D3 : Blk V3 w3.heap.size 25 #[.string r.ten, .int .i64 r.clock, .int .i64 r.kind, .int .i64 r.code, .int .i64 r.id, .string r.st, .string r.su, .int .i64 r.slot, .int .i64 r.uses, .int .i64 r.num, .slice A3 k c3] := by rw [hV3]; exact Blk.new _ _ _
    rw [← hV3]
    clear hV3 hpre
    have hW3 : Ext w V3 := hE1.trans ((hE2.trans hEV2).trans (hE3.trans hEV3))
    go_upto_region 7 with (go_at_call 21; (with_reducible refine (hrget _ hW3).mono ?_); rintro e w4 ⟨A4, k4, c4, rfl, hk4, hc4, hS4, hE4⟩)
    obtain rfl : k = k4 := hk4
    obtain ⟨V4, hV4, hEV4, -⟩ := box1 w4 #[.string r.ten, .int .i64 r.clock, .int .i64 r.kind, .int .i64 r.code, .int .i64 r.id, .string r.st, .string r.su, .int .i64 r.slot, .int .i64 r.uses, .int .i64 r.num, .slice A4 k c4] 25
    have D4 : Blk V4 w4.heap.size 25 #[.string r.ten, .int .i64 r.clock, .int .i64 r.kind, .int .i64 r.code, .int .i64 r.id, .string r.st, .string r.su, .int .i64 r.slot, .int .i64 r.uses, .int .i64 r.num, .slice A4 k c4] := by rw [hV4]; exact Blk.new _ _ _
    rw [← hV4]
    clear hV4 hget hrget
    have l2 := hE2.le
    have lV2 := hEV2.le
    have l3 := hE3.le
    have lV3 := hEV3.le
    have l4 := hE4.le
    have lV4 := hEV4.le
    have X3 : Ext V2 V4 := (hE3.trans hEV3).trans (hE4.trans hEV4)
    have X4 : Ext V3 V4 := hE4.trans hEV4
    have D2 := D2.ext X3
    have D3 := D3.ext X4
    have q2 := only_sl hS2 (hEV2.trans X3) (Nat.le_refl _)
    have q3 := only_sl hS3 (hEV3.trans X4) (Nat.le_refl _)
    have q4 := only_sl hS4 hEV4 (Nat.le_refl _)
    have q1 := only_sl h1S ((hE2.trans hEV2).trans X3) (Nat.le_refl _)
    have hW4 : Ext w V4 := hW3.trans X4
    clear hS2 hS3 hS4 h1S hE2 hE3 hE4 hEV2 hEV3 hEV4 X3 X4 hW3
    have ac0 := D2.cell 0 (v := .string r.ten) rfl
    have ar0 := fun (w' : World) (h : Ext V4 w') => h.cellk ac0
    have ac1 := D2.cell 1 (v := .int .i64 r.clock) rfl
    have ar1 := fun (w' : World) (h : Ext V4 w') => h.cellk ac1
    have ac2 := D2.cell 2 (v := .int .i64 r.kind) rfl
    have ar2 := fun (w' : World) (h : Ext V4 w') => h.cellk ac2
    have ac3 := D2.cell 3 (v := .int .i64 r.code) rfl
    have ar3 := fun (w' : World) (h : Ext V4 w') => h.cellk ac3
    have ac4 := D2.cell 4 (v := .int .i64 r.id) rfl
    have ar4 := fun (w' : World) (h : Ext V4 w') => h.cellk ac4
    have ac5 := D2.cell 5 (v := .string r.st) rfl
    have ar5 := fun (w' : World) (h : Ext V4 w') => h.cellk ac5
    have ac6 := D2.cell 6 (v := .string r.su) rfl
    have ar6 := fun (w' : World) (h : Ext V4 w') => h.cellk ac6
    have ac7 := D2.cell 7 (v := .int .i64 r.slot) rfl
    have ar7 := fun (w' : World) (h : Ext V4 w') => h.cellk ac7
    have ac8 := D2.cell 8 (v := .int .i64 r.uses) rfl
    have ar8 := fun (w' : World) (h : Ext V4 w') => h.cellk ac8
    have ac9 := D2.cell 9 (v := .int .i64 r.num) rfl
    have ar9 := fun (w' : World) (h : Ext V4 w') => h.cellk ac9
    have ac10 := D2.cell 10 (v := .slice A2 k c2) rfl
    have ar10 := fun (w' : World) (h : Ext V4 w') => h.cellk ac10
    have bc0 := D4.cell 0 (v := .string r.ten) rfl
    have br0 := fun (w' : World) (h : Ext V4 w') => h.cellk bc0
    have bc1 := D4.cell 1 (v := .int .i64 r.clock) rfl
    have br1 := fun (w' : World) (h : Ext V4 w') => h.cellk bc1
    have bc2 := D4.cell 2 (v := .int .i64 r.kind) rfl
    have br2 := fun (w' : World) (h : Ext V4 w') => h.cellk bc2
    have bc3 := D4.cell 3 (v := .int .i64 r.code) rfl
    have br3 := fun (w' : World) (h : Ext V4 w') => h.cellk bc3
    have bc4 := D4.cell 4 (v := .int .i64 r.id) rfl
    have br4 := fun (w' : World) (h : Ext V4 w') => h.cellk bc4
    have bc5 := D4.cell 5 (v := .string r.st) rfl
    have br5 := fun (w' : World) (h : Ext V4 w') => h.cellk bc5
    have bc6 := D4.cell 6 (v := .string r.su) rfl
    have br6 := fun (w' : World) (h : Ext V4 w') => h.cellk bc6
    have bc7 := D4.cell 7 (v := .int .i64 r.slot) rfl
    have br7 := fun (w' : World) (h : Ext V4 w') => h.cellk bc7
    have bc8 := D4.cell 8 (v := .int .i64 r.uses) rfl
    have br8 := fun (w' : World) (h : Ext V4 w') => h.cellk bc8
    have bc9 := D4.cell 9 (v := .int .i64 r.num) rfl
    have br9 := fun (w' : World) (h : Ext V4 w') => h.cellk bc9
    have bc10 := D4.cell 10 (v := .slice A4 k c4) rfl
    have br10 := fun (w' : World) (h : Ext V4 w') => h.cellk bc10
    have hY4 : Ext V4 V4 := Ext.refl V4
    go_upto_region 10 with (first | (go_at_call 18; (with_reducible refine (hsr _ _ _ _ _ (q2.mono only_cle) hc2 (q4.mono only_cle) hc4).mono ?_); rintro e w5 ⟨rfl, hE5⟩; have p2 := only_sl q2 hE5 (by omega); have hl5 := hE5.le) | (go_at_call 22; (with_reducible refine (hsp _ _ _ (by omega) _ _ p2 hc2).mono ?_); rintro e w6 ⟨rfl, hX6⟩))
    have hW6 : Ext w w6 := Exc.ext (hW4.trans hE5) hX6 hE1.le
    have D3 := hX6.blk (D3.ext hE5) (.inr (by omega))
    have D4 := hX6.blk (D4.ext hE5) (.inr (by omega))
    have p3 := (only_slx (only_sl q3 hE5 (by omega)) hX6 (by omega) (.inr (by omega))).mono only_cle
    have p4 := (only_slx (only_sl q4 hE5 (by omega)) hX6 (by omega) (.inr (by omega))).mono only_cle
    have p1 := (only_slx (only_sl q1 hE5 (by omega)) hX6 (by omega) (.inl (by omega))).mono only_cle
    have e0 := D3.cell 0 (v := .string r.ten) rfl
    have f0 := D3.frozen 0
    have e1 := D3.cell 1 (v := .int .i64 r.clock) rfl
    have f1 := D3.frozen 1
    have e2 := D3.cell 2 (v := .int .i64 r.kind) rfl
    have f2 := D3.frozen 2
    have e3 := D3.cell 3 (v := .int .i64 r.code) rfl
    have f3 := D3.frozen 3
    have e4 := D3.cell 4 (v := .int .i64 r.id) rfl
    have f4 := D3.frozen 4
    have e5 := D3.cell 5 (v := .string r.st) rfl
    have f5 := D3.frozen 5
    have e6 := D3.cell 6 (v := .string r.su) rfl
    have f6 := D3.frozen 6
    have e7 := D3.cell 7 (v := .int .i64 r.slot) rfl
    have f7 := D3.frozen 7
    have e8 := D3.cell 8 (v := .int .i64 r.uses) rfl
    have f8 := D3.frozen 8
    have e9 := D3.cell 9 (v := .int .i64 r.num) rfl
    have f9 := D3.frozen 9
    have e10 := D3.cell 10 (v := .slice A3 k c3) rfl
    have f10 := D3.frozen 10
    have g0 := D4.cell 0 (v := .string r.ten) rfl
    have h0 := D4.frozen 0
    have g1 := D4.cell 1 (v := .int .i64 r.clock) rfl
    have h1 := D4.frozen 1
    have g2 := D4.cell 2 (v := .int .i64 r.kind) rfl
    have h2 := D4.frozen 2
    have g3 := D4.cell 3 (v := .int .i64 r.code) rfl
    have h3 := D4.frozen 3
    have g4 := D4.cell 4 (v := .int .i64 r.id) rfl
    have h4 := D4.frozen 4
    have g5 := D4.cell 5 (v := .string r.st) rfl
    have h5 := D4.frozen 5
    have g6 := D4.cell 6 (v := .string r.su) rfl
    have h6 := D4.frozen 6
    have g7 := D4.cell 7 (v := .int .i64 r.slot) rfl
    have h7 := D4.frozen 7
    have g8 := D4.cell 8 (v := .int .i64 r.uses) rfl
    have h8 := D4.frozen 8
    have g9 := D4.cell 9 (v := .int .i64 r.num) rfl
    have h9 := D4.frozen 9
    have g10 := D4.cell 10 (v := .slice A4 k c4) rfl
    have h10 := D4.frozen 10
    clear q1 q2 q3 q4 p2 D2 D3 D4 hX6 hsp
    go_wp2_with (first | (go_at_call 18; (with_reducible refine (hsr _ _ _ _ _ p3 hc3 p4 hc4).mono ?_); rintro e w7 ⟨rfl, hE7⟩; have p1 := p1.ext hE7) | (go_at_call 23; (with_reducible refine (hkb _ (hW6.trans hE7) _ _ p1 h1c h1m).mono ?_); rintro e w8 ⟨rfl, hE8⟩) | (go_at_call 10; (with_reducible refine (hwo _).mono ?_); rintro e w9 ⟨rfl, hE9⟩))
    go_ret
    exact ⟨rfl, ((hW6.trans hE7).trans hE8).trans hE9⟩
end Go.Proofs.YtkmjnbfhfjafpaaDoor
