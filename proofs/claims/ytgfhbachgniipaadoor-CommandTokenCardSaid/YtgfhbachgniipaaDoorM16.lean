/- The law CommandFields, walked. (and what follows) -/
import Derived.Test.YtgfhbachgniipaaDoorM15
/-! The law CommandFields, walked. -/
namespace Go.Proofs.YtgfhbachgniipaaDoor
set_option linter.unusedVariables false
set_option linter.unusedSimpArgs false
open Go.RowKit
theorem blk_two {w : World} {g : Nat} {t : TypeId} {A A' : Option Addr} {n n' c c' : Nat} {p p' : List UInt8} (h : Blk w g t #[.slice A n c, .slice A' n' c']) (hp : p.length = n) (hp' : p'.length = n') (hc : n ≤ c) (hc' : n' ≤ c') (hS : Rd.u8.Sl w A n p) (hS' : Rd.u8.Sl w A' n' p') : rdB.Sl w (some ⟨g, 0, none⟩) 2 [p, p'] := by
  subst hp
  subst hp'
  refine ⟨rfl, fun _ => ⟨g, 0, rfl, fun i hi => ?_⟩⟩
  have hi2 : i = 0 ∨ i = 1 := by simp at hi; omega
  rcases hi2 with rfl | rfl
  · refine ⟨[.slice A p.length c], ⟨A, c, rfl, hc, hS⟩, fun j u hu => ?_⟩
    have := h.cell j (v := u) (by
      have hj : j = 0 := by have := (List.getElem?_eq_some_iff.1 hu).1; simp at this; exact this
      subst hj
      simpa using hu)
    simpa using this
  · refine ⟨[.slice A' p'.length c'], ⟨A', c', rfl, hc', hS'⟩, fun j u hu => ?_⟩
    have hj : j = 0 := by have := (List.getElem?_eq_some_iff.1 hu).1; simp at this; exact this
    subst hj
    exact h.cell 1 (v := u) (by simpa using hu)
def pickV (v n : Int) : Int := if n < 1 then 0 else if v.tmod n < 0 then v.tmod n + n else v.tmod n
set_option maxHeartbeats 1000000 in
set_option maxRecDepth 100000 in
theorem pickv_any (v n : Int) (hv : intOk v) (hn : intOk n) (w : World) : Calls Tryd.prog 5 #[.int .i64 v, .int .i64 n] w fun e w' => e = .returned (.int .i64 (pickV v n)) ∧ w = w' := by
  unfold intOk at hv hn
  by_cases h1 : n < 1
  · have e : pickV v n = 0 := by unfold pickV; rw [if_pos h1]
    rw [e]
    clear e
    go_enter Tryd.func5, Tryd.ntmps5
    go_wp2_with fail
    go_ret
    exact ⟨rfl, rfl⟩
  · have h0 : n ≠ 0 := by omega
    have a1 : v.tmod n < n := Int.tmod_lt_of_pos _ (by omega)
    have a2 : -n < v.tmod n := Int.lt_tmod_of_pos _ (by omega)
    have a3 : wrap64 (v.tmod n) = v.tmod n := IntWalk.wrap64_in _ ⟨by omega, by omega⟩
    by_cases h2 : v.tmod n < 0
    · have a4 : wrap64 (v.tmod n + n) = v.tmod n + n := IntWalk.wrap64_in _ ⟨by omega, by omega⟩
      have e : pickV v n = v.tmod n + n := by unfold pickV; rw [if_neg h1, if_pos h2]
      rw [e]
      clear e
      go_enter Tryd.func5, Tryd.ntmps5
      go_wp2_with fail
      go_ret
      exact ⟨rfl, rfl⟩
    · have e : pickV v n = v.tmod n := by unfold pickV; rw [if_neg h1, if_neg h2]
      rw [e]
      clear e
      go_enter Tryd.func5, Tryd.ntmps5
      go_wp2_with fail
      go_ret
      exact ⟨rfl, rfl⟩
theorem pickv_lt (v : Int) (n : Nat) (hn : 0 < n) : ∃ i : Nat, i < n ∧ pickV v n = i := by
  have a1 : v.tmod n < n := Int.tmod_lt_of_pos _ (by omega)
  have a2 : -(n : Int) < v.tmod n := Int.lt_tmod_of_pos _ (by omega)
  unfold pickV
  rw [if_neg (by omega)]
  split
  · exact ⟨(v.tmod n + n).toNat, by omega, by omega⟩
  · exact ⟨(v.tmod n).toNat, by omega, by omega⟩
theorem ask_any (w : World) (k : Nat) (hk : 1 ≤ k ∧ k ≤ 8) : Calls Tryd.prog 6 #[.int .i64 k] w fun e w' => ∃ C, e = .returned (.agg C) ∧ CmdAt w' (askG k) C ∧ Ext w w' := by
  obtain rfl | rfl | rfl | rfl | rfl | rfl | rfl | rfl := (by omega : k = 1 ∨ k = 2 ∨ k = 3 ∨ k = 4 ∨ k = 5 ∨ k = 6 ∨ k = 7 ∨ k = 8)
  · exact ask1_any w
  · exact ask2_any w
  · exact ask3_any w
  · exact ask4_any w
  · exact ask5_any w
  · exact ask6_any w
  · exact ask7_any w
  · exact ask8_any w
def rowS (k : Nat) : ByteArray := if k = 1 then ⟨#[115, 117, 101, 98]⟩ else if k = 2 then ⟨#[115, 102, 99]⟩ else if k = 3 then ⟨#[102, 99]⟩ else if k = 4 then ⟨#[117]⟩ else if k = 5 then ⟨#[103]⟩ else if k = 6 then ⟨#[105]⟩ else if k = 7 then ⟨#[102, 99]⟩ else if k = 8 then ⟨#[102]⟩ else ⟨#[]⟩
def rowsA : Array Value := #[.string ⟨#[]⟩, .string ⟨#[115, 117, 101, 98]⟩, .string ⟨#[115, 102, 99]⟩, .string ⟨#[102, 99]⟩, .string ⟨#[117]⟩, .string ⟨#[103]⟩, .string ⟨#[105]⟩, .string ⟨#[102, 99]⟩, .string ⟨#[102]⟩]
theorem rowsA_at (k : Nat) (hk : k ≤ 8) : rowsA[k]? = some (.string (rowS k)) := by
  obtain rfl | rfl | rfl | rfl | rfl | rfl | rfl | rfl | rfl := (by omega : k = 0 ∨ k = 1 ∨ k = 2 ∨ k = 3 ∨ k = 4 ∨ k = 5 ∨ k = 6 ∨ k = 7 ∨ k = 8)
  all_goals rfl
theorem rowS_size (k : Nat) (hk : k ≤ 8) : (rowS k).size ≤ 4 := by
  obtain rfl | rfl | rfl | rfl | rfl | rfl | rfl | rfl | rfl := (by omega : k = 0 ∨ k = 1 ∨ k = 2 ∨ k = 3 ∨ k = 4 ∨ k = 5 ∨ k = 6 ∨ k = 7 ∨ k = 8)
  all_goals decide
theorem contains_snoc (l : List UInt8) (y x : UInt8) : (l ++ [y]).contains x = (l.contains x || (y == x)) := by
  rw [Bool.eq_iff_iff, List.contains_iff_mem, Bool.or_eq_true, List.contains_iff_mem, beq_iff_eq, List.mem_append, List.mem_singleton]
  exact ⟨fun h => h.imp id Eq.symm, fun h => h.imp id Eq.symm⟩
theorem u8_beq (y x : UInt8) : (((y.toNat : Int)) == (x.toNat : Int)) = (y == x) := by
  rw [Bool.eq_iff_iff, beq_iff_eq, beq_iff_eq]
  constructor
  · intro h
    apply UInt8.toNat_inj.1
    omega
  · rintro rfl; rfl
def letS (f : Nat) : UInt8 := [115, 117, 101, 98, 102, 99, 103, 105].getD f 0
/-- A command with one field turned. -/
def fSet (c : Cmd) (f : Nat) (n : Int) : Cmd :=
  if f = 0 then { c with st := ⟨#[111, 112, 101, 110]⟩ } else if f = 1 then { c with su := ⟨#[99, 105, 100]⟩ } else if f = 2 then { c with ex := n } else if f = 3 then { c with bodies := [[1], []] }
  else if f = 4 then { c with fr := n } else if f = 5 then { c with ct := n } else if f = 6 then { c with gr := ⟨n, ⟨#[]⟩, false, 0⟩ } else { c with id := n }
set_option maxRecDepth 100000 in
theorem fields_law : ∀ k : Fin 8, ∀ f : Fin 8, ∀ n : Fin 64, cmdG (fSet (askG (k.1 + 1)) f.1 (n.1 + 1)) = if (rowS (k.1 + 1)).data.toList.contains (letS f.1) then 0 else 11 := by decide +kernel

theorem cmdLen_of {c : Cmd} (h1 : c.tok.gs = []) (h2 : c.bodies.length ≤ 3) (h3 : ∀ x ∈ c.bodies, x.length ≤ 10) (h4 : c.st.size ≤ 10) (h5 : c.su.size ≤ 10) (h6 : c.gr.p.size ≤ 10) : CmdLen c :=
  ⟨by rw [h1]; decide, fun g hg => by rw [h1] at hg; simp at hg, by omega, fun x hx => by have := h3 x hx; omega, by omega, by omega, by omega⟩
theorem ask_len (k : Nat) (hk : 1 ≤ k ∧ k ≤ 8) : CmdLen (askG k) := by
  obtain rfl | rfl | rfl | rfl | rfl | rfl | rfl | rfl := (by omega : k = 1 ∨ k = 2 ∨ k = 3 ∨ k = 4 ∨ k = 5 ∨ k = 6 ∨ k = 7 ∨ k = 8)
  all_goals exact cmdLen_of rfl (by decide) (by decide) (by decide) (by decide) (by decide)
theorem set_len (k : Nat) (hk : 1 ≤ k ∧ k ≤ 8) (f : Nat) (hf : f < 8) (n : Int) : CmdLen (fSet (askG k) f n) := by
  obtain rfl | rfl | rfl | rfl | rfl | rfl | rfl | rfl := (by omega : k = 1 ∨ k = 2 ∨ k = 3 ∨ k = 4 ∨ k = 5 ∨ k = 6 ∨ k = 7 ∨ k = 8)
  all_goals
    obtain rfl | rfl | rfl | rfl | rfl | rfl | rfl | rfl := (by omega : f = 0 ∨ f = 1 ∨ f = 2 ∨ f = 3 ∨ f = 4 ∨ f = 5 ∨ f = 6 ∨ f = 7)
    all_goals exact cmdLen_of rfl (of_decide_eq_true rfl) (of_decide_eq_true rfl) (of_decide_eq_true rfl) (of_decide_eq_true rfl) (of_decide_eq_true rfl)
theorem ask_fine (k : Nat) (hk : 1 ≤ k ∧ k ≤ 8) : cmdG (askG k) = 0 := ask_ok ⟨k, by omega⟩ (by simp; omega)
theorem set_cmd (k : Nat) (hk : 1 ≤ k ∧ k ≤ 8) (f : Nat) (hf : f < 8) (n : Nat) (hn : 1 ≤ n ∧ n ≤ 64) : cmdG (fSet (askG k) f n) = if (rowS k).data.toList.contains (letS f) then 0 else 11 := by
  have h := fields_law ⟨k - 1, by omega⟩ ⟨f, hf⟩ ⟨n - 1, by omega⟩
  simp only at h
  rw [show k - 1 + 1 = k by omega, show ((n - 1 : Nat) : Int) + 1 = n by omega] at h
  exact h


set_option maxHeartbeats 9000000 in
set_option maxRecDepth 100000 in
theorem fields_0 (w : World) (kind field n : Int) (k0 n0 : Nat) (hk0 : k0 < 8) (hn0 : n0 < 64) (hO : OfAt w)
    (hpk : ∀ w', Calls Tryd.prog 5 #[.int .i64 kind, .int .i64 8] w' fun e w'' => e = .returned (.int .i64 k0) ∧ w' = w'')
    (hpn : ∀ w', Calls Tryd.prog 5 #[.int .i64 n, .int .i64 64] w' fun e w'' => e = .returned (.int .i64 n0) ∧ w' = w'')
    (hpf : ∀ w', Calls Tryd.prog 5 #[.int .i64 field, .int .i64 8] w' fun e w'' => e = .returned (.int .i64 0) ∧ w' = w'') :
    Calls Tryd.prog 3 #[.int .i64 kind, .int .i64 field, .int .i64 n] w fun e w' => e = .returned (.bool true) ∧ Ext w w' := by
  obtain ⟨k, hk⟩ : ∃ k : Nat, 1 + (k0 : Int) = k := ⟨k0 + 1, by omega⟩
  obtain ⟨m, hm⟩ : ∃ m : Nat, 1 + (n0 : Int) = m := ⟨n0 + 1, by omega⟩
  have hk1 : 1 ≤ k := by omega
  have hk8 : k ≤ 8 := by omega
  have hm1 : 1 ≤ m := by omega
  have hm6 : m ≤ 64 := by omega
  have hask := fun (w' : World) => ask_any w' k ⟨hk1, hk8⟩
  have HK := Lib.hid hk
  have HM := Lib.hid hm
  clear hk hm
  go_enter Tryd.func3, Tryd.ntmps3
  go_upto_region 3 with (go_at_call 5; (with_reducible first | refine (hpk _).mono ?_ | refine (hpn _).mono ?_); rintro e w1 ⟨rfl, rfl⟩)
  rw [HK.out, HM.out]
  clear hpk hpn HK HM
  go_upto_region 4 with (first | (go_at_call 6; (with_reducible refine (hask _).mono ?_); rintro e w1 ⟨C, rfl, hC, hE1⟩; obtain ⟨z1, z2⟩ := hC.row; obtain ⟨V, hr, BV, hEV⟩ := box_row w1 32 #[.int .i64 0, .string ⟨#[]⟩, .int .i64 0, .slice none 0 0, .int .u8 0, .int .u8 0, .int .u8 0, .int .u8 0, .int .u8 0, .int .u8 0, .int .u8 0, .int .u8 0, .int .u8 0, .int .u8 0, .int .u8 0, .int .u8 0, .int .u8 0, .int .u8 0, .int .u8 0, .int .u8 0, .int .u8 0, .int .u8 0, .int .u8 0, .int .u8 0, .int .u8 0, .int .u8 0, .int .u8 0, .int .u8 0, .int .u8 0, .int .u8 0, .int .u8 0, .int .u8 0, .int .u8 0, .int .u8 0, .int .u8 0, .int .u8 0, .string ⟨#[]⟩, .string ⟨#[]⟩, .int .i64 0, .slice none 0 0, .int .i64 0, .int .i64 0, .int .i64 0, .string ⟨#[]⟩, .bool false, .int .i64 0, .int .i64 0] C z1.symm (by rw [z1]; kernel_rfl) z2) | (refine wpList_store_by rfl rfl ?_ ?_ hr ?_; (· rfl); (· rfl)))
  obtain ⟨a, b, rfl, hG, hB⟩ := hC
  have ld := load_whole BV 32 _ Tryd.underlying32 rfl (by kernel_rfl)
  have hck := ccheckq_any V (askG k) _ (hO.ext (hE1.trans hEV)) ⟨a, b, rfl, hG.ext hEV, hB.ext hEV⟩ (ask_len k ⟨hk1, hk8⟩)
  rw [ask_fine k ⟨hk1, hk8⟩] at hck
  obtain ⟨g, hg⟩ : ∃ z, w1.heap.size = z := ⟨_, rfl⟩
  rw [hg] at hr BV ld
  have hgV : w1.heap.size ≤ g := Nat.le_of_eq hg
  rw [hg]
  clear hg
  go_upto_region 6 with (first | (refine wpList_load_by rfl rfl ?_ ld ?_; (· rfl)) | (go_at_call 7; (with_reducible refine hck.mono ?_); rintro e V2 ⟨rfl, hE2⟩))
  clear hr ld hck z1 z2
  have BR := Blk.new V2 9 rowsA
  have hER : Ext V2 (V2.alloc (.cells rowsA 9)) := (Ext.refl _).alloc _
  obtain ⟨R, hR⟩ : ∃ z, V2.alloc (.cells rowsA 9) = z := ⟨_, rfl⟩
  rw [hR] at BR hER
  unfold rowsA at hR
  go_upto_region 8 with (go_at_call 5; (with_reducible refine (hpf _).mono ?_); rintro e w1 ⟨rfl, rfl⟩)
  clear hR hpf
  rw [show (({ data := #[115, 117, 101, 98, 102, 99, 103, 105] } : ByteArray)[0]).toNat = 115 from rfl]
  have xk := BR.cell k (rowsA_at k hk8)
  have hsz := rowS_size k hk8
  obtain ⟨s, hs⟩ : ∃ s, rowS k = s := ⟨_, rfl⟩
  obtain ⟨x, hx⟩ : ∃ x, letS 0 = x := ⟨_, rfl⟩
  have hx' : x.toNat = 115 := by rw [← hx]; rfl
  rw [hs] at xk hsz
  have HS := Lib.hid hs
  have HX := Lib.hid hx
  rw [← hx']
  have HX' := Lib.hid hx'
  clear hs hx hx' BR
  generalize V2.heap.size = q at *
  have hEV2 := (hE1.trans hEV).trans (hE2.trans hER)
  have hV2 := hE2.trans hER
  clear hE2 hER
  go_upto_region 10 with fail
  go_loopw [10, 11] (fun h i wr => ∃ j : Nat, j ≤ s.size ∧ i = .int .i64 j ∧ h = .bool ((s.data.toList.take j).contains x) ∧ Ext R wr) (fun _ i _ => s.size - (intOf i).toNat)
  case atStart => exact ⟨0, by omega, rfl, rfl, Ext.refl _⟩
  case round =>
    obtain ⟨j, hj, rfl, rfl, hE3⟩ := hrel
    have xk := hE3.cellk xk
    by_cases hlt : j < s.size
    · have ht : s.data.toList.take (j + 1) = s.data.toList.take j ++ [s[j]] := by rw [List.take_succ_eq_append_getElem (by simpa using hlt)]; rfl
      have HT := Lib.hid ht
      clear ht
      obtain ⟨bb, hbb⟩ : ∃ z, (s.data.toList.take j).contains x = z := ⟨_, rfl⟩
      rw [hbb]
      have HB := Lib.hid hbb
      clear hbb
      cases bb
      · go_wp2_with fail
        go_roundw
        case rel =>
          refine ⟨j + 1, by omega, by go_num, ?_, by first | assumption | (repeat (first | assumption | exact Ext.refl _ | refine Ext.drew ?_ | refine Ext.alloc ?_ _ | refine Ext.drewN ?_ _ | refine Ext.trans ?_ (by assumption)))⟩
          rw [HT.out, contains_snoc, HB.out, Bool.false_or, u8_beq]
        case measure => simp [intOf]; omega
      · go_wp2_with fail
        go_roundw
        case rel =>
          refine ⟨j + 1, by omega, by go_num, ?_, by first | assumption | (repeat (first | assumption | exact Ext.refl _ | refine Ext.drew ?_ | refine Ext.alloc ?_ _ | refine Ext.drewN ?_ _ | refine Ext.trans ?_ (by assumption)))⟩
          rw [HT.out, contains_snoc, HB.out, Bool.true_or]
        case measure => simp [intOf]; omega
    · obtain rfl : j = s.size := by omega
      obtain ⟨hv, hhv⟩ : ∃ z, (s.data.toList.take s.size).contains x = z := ⟨_, rfl⟩
      rw [hhv]
      rw [List.take_of_length_le (by rw [ba_len]; exact Nat.le_refl _)] at hhv
      have hw := set_cmd k ⟨hk1, hk8⟩ 0 (by decide) m ⟨hm1, hm6⟩
      rw [HS.out, HX.out, hhv] at hw
      rw [HX'.out, show ((115 : Nat) : Int) = 115 from rfl]
      have B2 := BV.ext (hV2.trans hE3)
      have hCg := hEV2.trans hE3
      have hlen := set_len k ⟨hk1, hk8⟩ 0 (by decide) m
      have hOw := hO.ext hCg
      clear HS HX HX' hhv
      have F0 := (hEV.trans hV2).trans hE3
      clear hE3
      have cz := B2.cell 36 (v := .string (askG k).st) rfl
      have cf := B2.frozen 36
      go_upto_region 31 with fail
      have B3 : Blk (wr.setCell ⟨g, 36, none⟩ (.string ⟨#[111, 112, 101, 110]⟩)) g 32 (cmdA (fSet (askG k) 0 m) a b) := by
        have e : (cmdA (askG k) a b).setIfInBounds 36 (.string ⟨#[111, 112, 101, 110]⟩) = cmdA (fSet (askG k) 0 m) a b := rfl
        rw [← e]; exact B2.set_ 36 _
      have F3 : Ext w1 (wr.setCell ⟨g, 36, none⟩ (.string ⟨#[111, 112, 101, 110]⟩)) := Ext.set F0 (p := ⟨g, 36, none⟩) hgV _
      clear cz cf xk
      generalize wr.setCell ⟨g, 36, none⟩ (.string ⟨#[111, 112, 101, 110]⟩) = Y at B3 F3 ⊢
      have hld := load_whole B3 32 _ Tryd.underlying32 rfl (by kernel_rfl)
      have hck := ccheckq_any _ (fSet (askG k) 0 m) _ ((hO.ext hE1).ext F3) ⟨a, b, rfl, hG.ext F3, hB.ext F3⟩ hlen
      have hwo := fun (w' : World) (e : Ext w1 w') => works_any w' ((hO.ext hE1).ext e)
      rw [hw] at hck
      clear hw hlen B2 B3 hG hB F0
      cases hv
      · rw [if_neg (by decide)] at hck
        go_wp2_with (first | (refine wpList_load_by rfl rfl ?_ hld ?_; (· rfl)) | (go_at_call 7; (with_reducible refine hck.mono ?_); rintro e Y2 ⟨rfl, hE4⟩) | (go_at_call 8; (with_reducible refine (hwo _ (F3.trans hE4)).mono ?_); rintro e Y3 ⟨rfl, hE5⟩))
        go_ret
        exact ⟨rfl, hE1.trans ((F3.trans hE4).trans hE5)⟩
      · rw [if_pos rfl] at hck
        go_wp2_with (first | (refine wpList_load_by rfl rfl ?_ hld ?_; (· rfl)) | (go_at_call 7; (with_reducible refine hck.mono ?_); rintro e Y2 ⟨rfl, hE4⟩) | (go_at_call 8; (with_reducible refine (hwo _ (F3.trans hE4)).mono ?_); rintro e Y3 ⟨rfl, hE5⟩))
        go_ret
        exact ⟨rfl, hE1.trans ((F3.trans hE4).trans hE5)⟩
set_option maxHeartbeats 9000000 in
set_option maxRecDepth 100000 in
theorem fields_1 (w : World) (kind field n : Int) (k0 n0 : Nat) (hk0 : k0 < 8) (hn0 : n0 < 64) (hO : OfAt w)
    (hpk : ∀ w', Calls Tryd.prog 5 #[.int .i64 kind, .int .i64 8] w' fun e w'' => e = .returned (.int .i64 k0) ∧ w' = w'')
    (hpn : ∀ w', Calls Tryd.prog 5 #[.int .i64 n, .int .i64 64] w' fun e w'' => e = .returned (.int .i64 n0) ∧ w' = w'')
    (hpf : ∀ w', Calls Tryd.prog 5 #[.int .i64 field, .int .i64 8] w' fun e w'' => e = .returned (.int .i64 1) ∧ w' = w'') :
    Calls Tryd.prog 3 #[.int .i64 kind, .int .i64 field, .int .i64 n] w fun e w' => e = .returned (.bool true) ∧ Ext w w' := by
  obtain ⟨k, hk⟩ : ∃ k : Nat, 1 + (k0 : Int) = k := ⟨k0 + 1, by omega⟩
  obtain ⟨m, hm⟩ : ∃ m : Nat, 1 + (n0 : Int) = m := ⟨n0 + 1, by omega⟩
  have hk1 : 1 ≤ k := by omega
  have hk8 : k ≤ 8 := by omega
  have hm1 : 1 ≤ m := by omega
  have hm6 : m ≤ 64 := by omega
  have hask := fun (w' : World) => ask_any w' k ⟨hk1, hk8⟩
  have HK := Lib.hid hk
  have HM := Lib.hid hm
  clear hk hm
  go_enter Tryd.func3, Tryd.ntmps3
  go_upto_region 3 with (go_at_call 5; (with_reducible first | refine (hpk _).mono ?_ | refine (hpn _).mono ?_); rintro e w1 ⟨rfl, rfl⟩)
  rw [HK.out, HM.out]
  clear hpk hpn HK HM
  go_upto_region 4 with (first | (go_at_call 6; (with_reducible refine (hask _).mono ?_); rintro e w1 ⟨C, rfl, hC, hE1⟩; obtain ⟨z1, z2⟩ := hC.row; obtain ⟨V, hr, BV, hEV⟩ := box_row w1 32 #[.int .i64 0, .string ⟨#[]⟩, .int .i64 0, .slice none 0 0, .int .u8 0, .int .u8 0, .int .u8 0, .int .u8 0, .int .u8 0, .int .u8 0, .int .u8 0, .int .u8 0, .int .u8 0, .int .u8 0, .int .u8 0, .int .u8 0, .int .u8 0, .int .u8 0, .int .u8 0, .int .u8 0, .int .u8 0, .int .u8 0, .int .u8 0, .int .u8 0, .int .u8 0, .int .u8 0, .int .u8 0, .int .u8 0, .int .u8 0, .int .u8 0, .int .u8 0, .int .u8 0, .int .u8 0, .int .u8 0, .int .u8 0, .int .u8 0, .string ⟨#[]⟩, .string ⟨#[]⟩, .int .i64 0, .slice none 0 0, .int .i64 0, .int .i64 0, .int .i64 0, .string ⟨#[]⟩, .bool false, .int .i64 0, .int .i64 0] C z1.symm (by rw [z1]; kernel_rfl) z2) | (refine wpList_store_by rfl rfl ?_ ?_ hr ?_; (· rfl); (· rfl)))
  obtain ⟨a, b, rfl, hG, hB⟩ := hC
  have ld := load_whole BV 32 _ Tryd.underlying32 rfl (by kernel_rfl)
  have hck := ccheckq_any V (askG k) _ (hO.ext (hE1.trans hEV)) ⟨a, b, rfl, hG.ext hEV, hB.ext hEV⟩ (ask_len k ⟨hk1, hk8⟩)
  rw [ask_fine k ⟨hk1, hk8⟩] at hck
  obtain ⟨g, hg⟩ : ∃ z, w1.heap.size = z := ⟨_, rfl⟩
  rw [hg] at hr BV ld
  have hgV : w1.heap.size ≤ g := Nat.le_of_eq hg
  rw [hg]
  clear hg
  go_upto_region 6 with (first | (refine wpList_load_by rfl rfl ?_ ld ?_; (· rfl)) | (go_at_call 7; (with_reducible refine hck.mono ?_); rintro e V2 ⟨rfl, hE2⟩))
  clear hr ld hck z1 z2
  have BR := Blk.new V2 9 rowsA
  have hER : Ext V2 (V2.alloc (.cells rowsA 9)) := (Ext.refl _).alloc _
  obtain ⟨R, hR⟩ : ∃ z, V2.alloc (.cells rowsA 9) = z := ⟨_, rfl⟩
  rw [hR] at BR hER
  unfold rowsA at hR
  go_upto_region 8 with (go_at_call 5; (with_reducible refine (hpf _).mono ?_); rintro e w1 ⟨rfl, rfl⟩)
  clear hR hpf
  rw [show (({ data := #[115, 117, 101, 98, 102, 99, 103, 105] } : ByteArray)[1]).toNat = 117 from rfl]
  have xk := BR.cell k (rowsA_at k hk8)
  have hsz := rowS_size k hk8
  obtain ⟨s, hs⟩ : ∃ s, rowS k = s := ⟨_, rfl⟩
  obtain ⟨x, hx⟩ : ∃ x, letS 1 = x := ⟨_, rfl⟩
  have hx' : x.toNat = 117 := by rw [← hx]; rfl
  rw [hs] at xk hsz
  have HS := Lib.hid hs
  have HX := Lib.hid hx
  rw [← hx']
  have HX' := Lib.hid hx'
  clear hs hx hx' BR
  generalize V2.heap.size = q at *
  have hEV2 := (hE1.trans hEV).trans (hE2.trans hER)
  have hV2 := hE2.trans hER
  clear hE2 hER
  go_upto_region 10 with fail
  go_loopw [10, 11] (fun h i wr => ∃ j : Nat, j ≤ s.size ∧ i = .int .i64 j ∧ h = .bool ((s.data.toList.take j).contains x) ∧ Ext R wr) (fun _ i _ => s.size - (intOf i).toNat)
  case atStart => exact ⟨0, by omega, rfl, rfl, Ext.refl _⟩
  case round =>
    obtain ⟨j, hj, rfl, rfl, hE3⟩ := hrel
    have xk := hE3.cellk xk
    by_cases hlt : j < s.size
    · have ht : s.data.toList.take (j + 1) = s.data.toList.take j ++ [s[j]] := by rw [List.take_succ_eq_append_getElem (by simpa using hlt)]; rfl
      have HT := Lib.hid ht
      clear ht
      obtain ⟨bb, hbb⟩ : ∃ z, (s.data.toList.take j).contains x = z := ⟨_, rfl⟩
      rw [hbb]
      have HB := Lib.hid hbb
      clear hbb
      cases bb
      · go_wp2_with fail
        go_roundw
        case rel =>
          refine ⟨j + 1, by omega, by go_num, ?_, by first | assumption | (repeat (first | assumption | exact Ext.refl _ | refine Ext.drew ?_ | refine Ext.alloc ?_ _ | refine Ext.drewN ?_ _ | refine Ext.trans ?_ (by assumption)))⟩
          rw [HT.out, contains_snoc, HB.out, Bool.false_or, u8_beq]
        case measure => simp [intOf]; omega
      · go_wp2_with fail
        go_roundw
        case rel =>
          refine ⟨j + 1, by omega, by go_num, ?_, by first | assumption | (repeat (first | assumption | exact Ext.refl _ | refine Ext.drew ?_ | refine Ext.alloc ?_ _ | refine Ext.drewN ?_ _ | refine Ext.trans ?_ (by assumption)))⟩
          rw [HT.out, contains_snoc, HB.out, Bool.true_or]
        case measure => simp [intOf]; omega
    · obtain rfl : j = s.size := by omega
      obtain ⟨hv, hhv⟩ : ∃ z, (s.data.toList.take s.size).contains x = z := ⟨_, rfl⟩
      rw [hhv]
      rw [List.take_of_length_le (by rw [ba_len]; exact Nat.le_refl _)] at hhv
      have hw := set_cmd k ⟨hk1, hk8⟩ 1 (by decide) m ⟨hm1, hm6⟩
      rw [HS.out, HX.out, hhv] at hw
      rw [HX'.out, show ((117 : Nat) : Int) = 117 from rfl]
      have B2 := BV.ext (hV2.trans hE3)
      have hCg := hEV2.trans hE3
      have hlen := set_len k ⟨hk1, hk8⟩ 1 (by decide) m
      have hOw := hO.ext hCg
      clear HS HX HX' hhv
      have F0 := (hEV.trans hV2).trans hE3
      clear hE3
      have cz := B2.cell 37 (v := .string (askG k).su) rfl
      have cf := B2.frozen 37
      go_upto_region 31 with fail
      have B3 : Blk (wr.setCell ⟨g, 37, none⟩ (.string ⟨#[99, 105, 100]⟩)) g 32 (cmdA (fSet (askG k) 1 m) a b) := by
        have e : (cmdA (askG k) a b).setIfInBounds 37 (.string ⟨#[99, 105, 100]⟩) = cmdA (fSet (askG k) 1 m) a b := rfl
        rw [← e]; exact B2.set_ 37 _
      have F3 : Ext w1 (wr.setCell ⟨g, 37, none⟩ (.string ⟨#[99, 105, 100]⟩)) := Ext.set F0 (p := ⟨g, 37, none⟩) hgV _
      clear cz cf xk
      generalize wr.setCell ⟨g, 37, none⟩ (.string ⟨#[99, 105, 100]⟩) = Y at B3 F3 ⊢
      have hld := load_whole B3 32 _ Tryd.underlying32 rfl (by kernel_rfl)
      have hck := ccheckq_any _ (fSet (askG k) 1 m) _ ((hO.ext hE1).ext F3) ⟨a, b, rfl, hG.ext F3, hB.ext F3⟩ hlen
      have hwo := fun (w' : World) (e : Ext w1 w') => works_any w' ((hO.ext hE1).ext e)
      rw [hw] at hck
      clear hw hlen B2 B3 hG hB F0
      cases hv
      · rw [if_neg (by decide)] at hck
        go_wp2_with (first | (refine wpList_load_by rfl rfl ?_ hld ?_; (· rfl)) | (go_at_call 7; (with_reducible refine hck.mono ?_); rintro e Y2 ⟨rfl, hE4⟩) | (go_at_call 8; (with_reducible refine (hwo _ (F3.trans hE4)).mono ?_); rintro e Y3 ⟨rfl, hE5⟩))
        go_ret
        exact ⟨rfl, hE1.trans ((F3.trans hE4).trans hE5)⟩
      · rw [if_pos rfl] at hck
        go_wp2_with (first | (refine wpList_load_by rfl rfl ?_ hld ?_; (· rfl)) | (go_at_call 7; (with_reducible refine hck.mono ?_); rintro e Y2 ⟨rfl, hE4⟩) | (go_at_call 8; (with_reducible refine (hwo _ (F3.trans hE4)).mono ?_); rintro e Y3 ⟨rfl, hE5⟩))
        go_ret
        exact ⟨rfl, hE1.trans ((F3.trans hE4).trans hE5)⟩
set_option maxHeartbeats 9000000 in
set_option maxRecDepth 100000 in
theorem fields_2 (w : World) (kind field n : Int) (k0 n0 : Nat) (hk0 : k0 < 8) (hn0 : n0 < 64) (hO : OfAt w)
    (hpk : ∀ w', Calls Tryd.prog 5 #[.int .i64 kind, .int .i64 8] w' fun e w'' => e = .returned (.int .i64 k0) ∧ w' = w'')
    (hpn : ∀ w', Calls Tryd.prog 5 #[.int .i64 n, .int .i64 64] w' fun e w'' => e = .returned (.int .i64 n0) ∧ w' = w'')
    (hpf : ∀ w', Calls Tryd.prog 5 #[.int .i64 field, .int .i64 8] w' fun e w'' => e = .returned (.int .i64 2) ∧ w' = w'') :
    Calls Tryd.prog 3 #[.int .i64 kind, .int .i64 field, .int .i64 n] w fun e w' => e = .returned (.bool true) ∧ Ext w w' := by
  obtain ⟨k, hk⟩ : ∃ k : Nat, 1 + (k0 : Int) = k := ⟨k0 + 1, by omega⟩
  obtain ⟨m, hm⟩ : ∃ m : Nat, 1 + (n0 : Int) = m := ⟨n0 + 1, by omega⟩
  have hk1 : 1 ≤ k := by omega
  have hk8 : k ≤ 8 := by omega
  have hm1 : 1 ≤ m := by omega
  have hm6 : m ≤ 64 := by omega
  have hask := fun (w' : World) => ask_any w' k ⟨hk1, hk8⟩
  have HK := Lib.hid hk
  have HM := Lib.hid hm
  clear hk hm
  go_enter Tryd.func3, Tryd.ntmps3
  go_upto_region 3 with (go_at_call 5; (with_reducible first | refine (hpk _).mono ?_ | refine (hpn _).mono ?_); rintro e w1 ⟨rfl, rfl⟩)
  rw [HK.out, HM.out]
  clear hpk hpn HK HM
  go_upto_region 4 with (first | (go_at_call 6; (with_reducible refine (hask _).mono ?_); rintro e w1 ⟨C, rfl, hC, hE1⟩; obtain ⟨z1, z2⟩ := hC.row; obtain ⟨V, hr, BV, hEV⟩ := box_row w1 32 #[.int .i64 0, .string ⟨#[]⟩, .int .i64 0, .slice none 0 0, .int .u8 0, .int .u8 0, .int .u8 0, .int .u8 0, .int .u8 0, .int .u8 0, .int .u8 0, .int .u8 0, .int .u8 0, .int .u8 0, .int .u8 0, .int .u8 0, .int .u8 0, .int .u8 0, .int .u8 0, .int .u8 0, .int .u8 0, .int .u8 0, .int .u8 0, .int .u8 0, .int .u8 0, .int .u8 0, .int .u8 0, .int .u8 0, .int .u8 0, .int .u8 0, .int .u8 0, .int .u8 0, .int .u8 0, .int .u8 0, .int .u8 0, .int .u8 0, .string ⟨#[]⟩, .string ⟨#[]⟩, .int .i64 0, .slice none 0 0, .int .i64 0, .int .i64 0, .int .i64 0, .string ⟨#[]⟩, .bool false, .int .i64 0, .int .i64 0] C z1.symm (by rw [z1]; kernel_rfl) z2) | (refine wpList_store_by rfl rfl ?_ ?_ hr ?_; (· rfl); (· rfl)))
  obtain ⟨a, b, rfl, hG, hB⟩ := hC
  have ld := load_whole BV 32 _ Tryd.underlying32 rfl (by kernel_rfl)
  have hck := ccheckq_any V (askG k) _ (hO.ext (hE1.trans hEV)) ⟨a, b, rfl, hG.ext hEV, hB.ext hEV⟩ (ask_len k ⟨hk1, hk8⟩)
  rw [ask_fine k ⟨hk1, hk8⟩] at hck
  obtain ⟨g, hg⟩ : ∃ z, w1.heap.size = z := ⟨_, rfl⟩
  rw [hg] at hr BV ld
  have hgV : w1.heap.size ≤ g := Nat.le_of_eq hg
  rw [hg]
  clear hg
  go_upto_region 6 with (first | (refine wpList_load_by rfl rfl ?_ ld ?_; (· rfl)) | (go_at_call 7; (with_reducible refine hck.mono ?_); rintro e V2 ⟨rfl, hE2⟩))
  clear hr ld hck z1 z2
  have BR := Blk.new V2 9 rowsA
  have hER : Ext V2 (V2.alloc (.cells rowsA 9)) := (Ext.refl _).alloc _
  obtain ⟨R, hR⟩ : ∃ z, V2.alloc (.cells rowsA 9) = z := ⟨_, rfl⟩
  rw [hR] at BR hER
  unfold rowsA at hR
  go_upto_region 8 with (go_at_call 5; (with_reducible refine (hpf _).mono ?_); rintro e w1 ⟨rfl, rfl⟩)
  clear hR hpf
  rw [show (({ data := #[115, 117, 101, 98, 102, 99, 103, 105] } : ByteArray)[2]).toNat = 101 from rfl]
  have xk := BR.cell k (rowsA_at k hk8)
  have hsz := rowS_size k hk8
  obtain ⟨s, hs⟩ : ∃ s, rowS k = s := ⟨_, rfl⟩
  obtain ⟨x, hx⟩ : ∃ x, letS 2 = x := ⟨_, rfl⟩
  have hx' : x.toNat = 101 := by rw [← hx]; rfl
  rw [hs] at xk hsz
  have HS := Lib.hid hs
  have HX := Lib.hid hx
  rw [← hx']
  have HX' := Lib.hid hx'
  clear hs hx hx' BR
  generalize V2.heap.size = q at *
  have hEV2 := (hE1.trans hEV).trans (hE2.trans hER)
  have hV2 := hE2.trans hER
  clear hE2 hER
  go_upto_region 10 with fail
  go_loopw [10, 11] (fun h i wr => ∃ j : Nat, j ≤ s.size ∧ i = .int .i64 j ∧ h = .bool ((s.data.toList.take j).contains x) ∧ Ext R wr) (fun _ i _ => s.size - (intOf i).toNat)
  case atStart => exact ⟨0, by omega, rfl, rfl, Ext.refl _⟩
  case round =>
    obtain ⟨j, hj, rfl, rfl, hE3⟩ := hrel
    have xk := hE3.cellk xk
    by_cases hlt : j < s.size
    · have ht : s.data.toList.take (j + 1) = s.data.toList.take j ++ [s[j]] := by rw [List.take_succ_eq_append_getElem (by simpa using hlt)]; rfl
      have HT := Lib.hid ht
      clear ht
      obtain ⟨bb, hbb⟩ : ∃ z, (s.data.toList.take j).contains x = z := ⟨_, rfl⟩
      rw [hbb]
      have HB := Lib.hid hbb
      clear hbb
      cases bb
      · go_wp2_with fail
        go_roundw
        case rel =>
          refine ⟨j + 1, by omega, by go_num, ?_, by first | assumption | (repeat (first | assumption | exact Ext.refl _ | refine Ext.drew ?_ | refine Ext.alloc ?_ _ | refine Ext.drewN ?_ _ | refine Ext.trans ?_ (by assumption)))⟩
          rw [HT.out, contains_snoc, HB.out, Bool.false_or, u8_beq]
        case measure => simp [intOf]; omega
      · go_wp2_with fail
        go_roundw
        case rel =>
          refine ⟨j + 1, by omega, by go_num, ?_, by first | assumption | (repeat (first | assumption | exact Ext.refl _ | refine Ext.drew ?_ | refine Ext.alloc ?_ _ | refine Ext.drewN ?_ _ | refine Ext.trans ?_ (by assumption)))⟩
          rw [HT.out, contains_snoc, HB.out, Bool.true_or]
        case measure => simp [intOf]; omega
    · obtain rfl : j = s.size := by omega
      obtain ⟨hv, hhv⟩ : ∃ z, (s.data.toList.take s.size).contains x = z := ⟨_, rfl⟩
      rw [hhv]
      rw [List.take_of_length_le (by rw [ba_len]; exact Nat.le_refl _)] at hhv
      have hw := set_cmd k ⟨hk1, hk8⟩ 2 (by decide) m ⟨hm1, hm6⟩
      rw [HS.out, HX.out, hhv] at hw
      rw [HX'.out, show ((101 : Nat) : Int) = 101 from rfl]
      have B2 := BV.ext (hV2.trans hE3)
      have hCg := hEV2.trans hE3
      have hlen := set_len k ⟨hk1, hk8⟩ 2 (by decide) m
      have hOw := hO.ext hCg
      clear HS HX HX' hhv
      have F0 := (hEV.trans hV2).trans hE3
      clear hE3
      have cz := B2.cell 38 (v := .int .i64 (askG k).ex) rfl
      have cf := B2.frozen 38
      go_upto_region 31 with fail
      have B3 : Blk (wr.setCell ⟨g, 38, none⟩ (.int .i64 m)) g 32 (cmdA (fSet (askG k) 2 m) a b) := by
        have e : (cmdA (askG k) a b).setIfInBounds 38 (.int .i64 m) = cmdA (fSet (askG k) 2 m) a b := rfl
        rw [← e]; exact B2.set_ 38 _
      have F3 : Ext w1 (wr.setCell ⟨g, 38, none⟩ (.int .i64 m)) := Ext.set F0 (p := ⟨g, 38, none⟩) hgV _
      clear cz cf xk
      generalize wr.setCell ⟨g, 38, none⟩ (.int .i64 m) = Y at B3 F3 ⊢
      have hld := load_whole B3 32 _ Tryd.underlying32 rfl (by kernel_rfl)
      have hck := ccheckq_any _ (fSet (askG k) 2 m) _ ((hO.ext hE1).ext F3) ⟨a, b, rfl, hG.ext F3, hB.ext F3⟩ hlen
      have hwo := fun (w' : World) (e : Ext w1 w') => works_any w' ((hO.ext hE1).ext e)
      rw [hw] at hck
      clear hw hlen B2 B3 hG hB F0
      cases hv
      · rw [if_neg (by decide)] at hck
        go_wp2_with (first | (refine wpList_load_by rfl rfl ?_ hld ?_; (· rfl)) | (go_at_call 7; (with_reducible refine hck.mono ?_); rintro e Y2 ⟨rfl, hE4⟩) | (go_at_call 8; (with_reducible refine (hwo _ (F3.trans hE4)).mono ?_); rintro e Y3 ⟨rfl, hE5⟩))
        go_ret
        exact ⟨rfl, hE1.trans ((F3.trans hE4).trans hE5)⟩
      · rw [if_pos rfl] at hck
        go_wp2_with (first | (refine wpList_load_by rfl rfl ?_ hld ?_; (· rfl)) | (go_at_call 7; (with_reducible refine hck.mono ?_); rintro e Y2 ⟨rfl, hE4⟩) | (go_at_call 8; (with_reducible refine (hwo _ (F3.trans hE4)).mono ?_); rintro e Y3 ⟨rfl, hE5⟩))
        go_ret
        exact ⟨rfl, hE1.trans ((F3.trans hE4).trans hE5)⟩
set_option maxHeartbeats 9000000 in
set_option maxRecDepth 100000 in
theorem fields_3 (w : World) (kind field n : Int) (k0 n0 : Nat) (hk0 : k0 < 8) (hn0 : n0 < 64) (hO : OfAt w)
    (hpk : ∀ w', Calls Tryd.prog 5 #[.int .i64 kind, .int .i64 8] w' fun e w'' => e = .returned (.int .i64 k0) ∧ w' = w'')
    (hpn : ∀ w', Calls Tryd.prog 5 #[.int .i64 n, .int .i64 64] w' fun e w'' => e = .returned (.int .i64 n0) ∧ w' = w'')
    (hpf : ∀ w', Calls Tryd.prog 5 #[.int .i64 field, .int .i64 8] w' fun e w'' => e = .returned (.int .i64 3) ∧ w' = w'') :
    Calls Tryd.prog 3 #[.int .i64 kind, .int .i64 field, .int .i64 n] w fun e w' => e = .returned (.bool true) ∧ Ext w w' := by
  obtain ⟨k, hk⟩ : ∃ k : Nat, 1 + (k0 : Int) = k := ⟨k0 + 1, by omega⟩
  obtain ⟨m, hm⟩ : ∃ m : Nat, 1 + (n0 : Int) = m := ⟨n0 + 1, by omega⟩
  have hk1 : 1 ≤ k := by omega
  have hk8 : k ≤ 8 := by omega
  have hm1 : 1 ≤ m := by omega
  have hm6 : m ≤ 64 := by omega
  have hask := fun (w' : World) => ask_any w' k ⟨hk1, hk8⟩
  have HK := Lib.hid hk
  have HM := Lib.hid hm
  clear hk hm
  go_enter Tryd.func3, Tryd.ntmps3
  go_upto_region 3 with (go_at_call 5; (with_reducible first | refine (hpk _).mono ?_ | refine (hpn _).mono ?_); rintro e w1 ⟨rfl, rfl⟩)
  rw [HK.out, HM.out]
  clear hpk hpn HK HM
  go_upto_region 4 with (first | (go_at_call 6; (with_reducible refine (hask _).mono ?_); rintro e w1 ⟨C, rfl, hC, hE1⟩; obtain ⟨z1, z2⟩ := hC.row; obtain ⟨V, hr, BV, hEV⟩ := box_row w1 32 #[.int .i64 0, .string ⟨#[]⟩, .int .i64 0, .slice none 0 0, .int .u8 0, .int .u8 0, .int .u8 0, .int .u8 0, .int .u8 0, .int .u8 0, .int .u8 0, .int .u8 0, .int .u8 0, .int .u8 0, .int .u8 0, .int .u8 0, .int .u8 0, .int .u8 0, .int .u8 0, .int .u8 0, .int .u8 0, .int .u8 0, .int .u8 0, .int .u8 0, .int .u8 0, .int .u8 0, .int .u8 0, .int .u8 0, .int .u8 0, .int .u8 0, .int .u8 0, .int .u8 0, .int .u8 0, .int .u8 0, .int .u8 0, .int .u8 0, .string ⟨#[]⟩, .string ⟨#[]⟩, .int .i64 0, .slice none 0 0, .int .i64 0, .int .i64 0, .int .i64 0, .string ⟨#[]⟩, .bool false, .int .i64 0, .int .i64 0] C z1.symm (by rw [z1]; kernel_rfl) z2) | (refine wpList_store_by rfl rfl ?_ ?_ hr ?_; (· rfl); (· rfl)))
  obtain ⟨a, b, rfl, hG, hB⟩ := hC
  have ld := load_whole BV 32 _ Tryd.underlying32 rfl (by kernel_rfl)
  have hck := ccheckq_any V (askG k) _ (hO.ext (hE1.trans hEV)) ⟨a, b, rfl, hG.ext hEV, hB.ext hEV⟩ (ask_len k ⟨hk1, hk8⟩)
  rw [ask_fine k ⟨hk1, hk8⟩] at hck
  obtain ⟨g, hg⟩ : ∃ z, w1.heap.size = z := ⟨_, rfl⟩
  rw [hg] at hr BV ld
  have hgV : w1.heap.size ≤ g := Nat.le_of_eq hg
  rw [hg]
  clear hg
  go_upto_region 6 with (first | (refine wpList_load_by rfl rfl ?_ ld ?_; (· rfl)) | (go_at_call 7; (with_reducible refine hck.mono ?_); rintro e V2 ⟨rfl, hE2⟩))
  clear hr ld hck z1 z2
  have BR := Blk.new V2 9 rowsA
  have hER : Ext V2 (V2.alloc (.cells rowsA 9)) := (Ext.refl _).alloc _
  obtain ⟨R, hR⟩ : ∃ z, V2.alloc (.cells rowsA 9) = z := ⟨_, rfl⟩
  rw [hR] at BR hER
  unfold rowsA at hR
  go_upto_region 8 with (go_at_call 5; (with_reducible refine (hpf _).mono ?_); rintro e w1 ⟨rfl, rfl⟩)
  clear hR hpf
  rw [show (({ data := #[115, 117, 101, 98, 102, 99, 103, 105] } : ByteArray)[3]).toNat = 98 from rfl]
  have xk := BR.cell k (rowsA_at k hk8)
  have hsz := rowS_size k hk8
  obtain ⟨s, hs⟩ : ∃ s, rowS k = s := ⟨_, rfl⟩
  obtain ⟨x, hx⟩ : ∃ x, letS 3 = x := ⟨_, rfl⟩
  have hx' : x.toNat = 98 := by rw [← hx]; rfl
  rw [hs] at xk hsz
  have HS := Lib.hid hs
  have HX := Lib.hid hx
  rw [← hx']
  have HX' := Lib.hid hx'
  clear hs hx hx' BR
  generalize V2.heap.size = q at *
  have hEV2 := (hE1.trans hEV).trans (hE2.trans hER)
  have hV2 := hE2.trans hER
  clear hE2 hER
  go_upto_region 10 with fail
  go_loopw [10, 11] (fun h i wr => ∃ j : Nat, j ≤ s.size ∧ i = .int .i64 j ∧ h = .bool ((s.data.toList.take j).contains x) ∧ Ext R wr) (fun _ i _ => s.size - (intOf i).toNat)
  case atStart => exact ⟨0, by omega, rfl, rfl, Ext.refl _⟩
  case round =>
    obtain ⟨j, hj, rfl, rfl, hE3⟩ := hrel
    have xk := hE3.cellk xk
    by_cases hlt : j < s.size
    · have ht : s.data.toList.take (j + 1) = s.data.toList.take j ++ [s[j]] := by rw [List.take_succ_eq_append_getElem (by simpa using hlt)]; rfl
      have HT := Lib.hid ht
      clear ht
      obtain ⟨bb, hbb⟩ : ∃ z, (s.data.toList.take j).contains x = z := ⟨_, rfl⟩
      rw [hbb]
      have HB := Lib.hid hbb
      clear hbb
      cases bb
      · go_wp2_with fail
        go_roundw
        case rel =>
          refine ⟨j + 1, by omega, by go_num, ?_, by first | assumption | (repeat (first | assumption | exact Ext.refl _ | refine Ext.drew ?_ | refine Ext.alloc ?_ _ | refine Ext.drewN ?_ _ | refine Ext.trans ?_ (by assumption)))⟩
          rw [HT.out, contains_snoc, HB.out, Bool.false_or, u8_beq]
        case measure => simp [intOf]; omega
      · go_wp2_with fail
        go_roundw
        case rel =>
          refine ⟨j + 1, by omega, by go_num, ?_, by first | assumption | (repeat (first | assumption | exact Ext.refl _ | refine Ext.drew ?_ | refine Ext.alloc ?_ _ | refine Ext.drewN ?_ _ | refine Ext.trans ?_ (by assumption)))⟩
          rw [HT.out, contains_snoc, HB.out, Bool.true_or]
        case measure => simp [intOf]; omega
    · obtain rfl : j = s.size := by omega
      obtain ⟨hv, hhv⟩ : ∃ z, (s.data.toList.take s.size).contains x = z := ⟨_, rfl⟩
      rw [hhv]
      rw [List.take_of_length_le (by rw [ba_len]; exact Nat.le_refl _)] at hhv
      have hw := set_cmd k ⟨hk1, hk8⟩ 3 (by decide) m ⟨hm1, hm6⟩
      rw [HS.out, HX.out, hhv] at hw
      rw [HX'.out, show ((98 : Nat) : Int) = 98 from rfl]
      have B2 := BV.ext (hV2.trans hE3)
      have hCg := hEV2.trans hE3
      have hlen := set_len k ⟨hk1, hk8⟩ 3 (by decide) m
      have hOw := hO.ext hCg
      clear HS HX HX' hhv
      have F0 := (hEV.trans hV2).trans hE3
      clear hE3
      have hq1 : g < wr.heap.size := B2.lt
      have e1 : Ext wr (wr.alloc (.cells #[.int .u8 1] 5)) := (Ext.refl _).alloc _
      have D1 := Blk.new wr 5 #[.int .u8 1]
      obtain ⟨X1, hX1⟩ : ∃ z, wr.alloc (.cells #[.int .u8 1] 5) = z := ⟨_, rfl⟩
      rw [hX1] at e1 D1
      have e2 : Ext X1 (X1.alloc (.cells #[.slice (some ⟨wr.heap.size, 0, none⟩) 1 1, .slice none 0 0] 37)) := (Ext.refl _).alloc _
      have D2 := Blk.new X1 37 #[.slice (some ⟨wr.heap.size, 0, none⟩) 1 1, .slice none 0 0]
      obtain ⟨X2, hX2⟩ : ∃ z, X1.alloc (.cells #[.slice (some ⟨wr.heap.size, 0, none⟩) 1 1, .slice none 0 0] 37) = z := ⟨_, rfl⟩
      rw [hX2] at e2 D2
      have D1 := D1.ext e2
      have B2 := (B2.ext e1).ext e2
      have F0 := (F0.trans e1).trans e2
      have cz := B2.cell 39 (v := b) rfl
      have cf := B2.frozen 39
      have hn1 := D1.lt
      have hq2 : g < X1.heap.size := by have := e1.le; omega
      have hq3 : g ≠ wr.heap.size := by omega
      go_upto_region 31 with fail
      have B3 : Blk (X2.setCell ⟨g, 39, none⟩ (.slice (some ⟨X1.heap.size, 0, none⟩) 2 2)) g 32 (cmdA (fSet (askG k) 3 m) a (.slice (some ⟨X1.heap.size, 0, none⟩) 2 2)) := by
        have e : (cmdA (askG k) a b).setIfInBounds 39 (.slice (some ⟨X1.heap.size, 0, none⟩) 2 2) = cmdA (fSet (askG k) 3 m) a (.slice (some ⟨X1.heap.size, 0, none⟩) 2 2) := rfl
        rw [← e]; exact B2.set_ 39 _
      have F3 : Ext w1 (X2.setCell ⟨g, 39, none⟩ (.slice (some ⟨X1.heap.size, 0, none⟩) 2 2)) := Ext.set F0 (p := ⟨g, 39, none⟩) hgV _
      have D1 := D1.far (p := ⟨g, 39, none⟩) (by show wr.heap.size ≠ g; omega) (.slice (some ⟨X1.heap.size, 0, none⟩) 2 2)
      have D2 := D2.far (p := ⟨g, 39, none⟩) (by show X1.heap.size ≠ g; omega) (.slice (some ⟨X1.heap.size, 0, none⟩) 2 2)
      have hbv := blk_two D2 (p := [1]) (p' := []) rfl rfl (Nat.le_refl _) (Nat.le_refl _) (blk_u8 D1 rfl) (Rd.Sl.none _ _ none)
      clear cz cf xk D1 D2 hn1 hq2 hq3 e1 e2 hq1 hX1 hX2
      generalize X2.setCell ⟨g, 39, none⟩ (.slice (some ⟨X1.heap.size, 0, none⟩) 2 2) = Y at B3 F3 hbv ⊢
      generalize X1.heap.size = q2 at *
      generalize wr.heap.size = q3 at *
      have hld := load_whole B3 32 _ Tryd.underlying32 rfl (by kernel_rfl)
      have hck := ccheckq_any _ (fSet (askG k) 3 m) _ ((hO.ext hE1).ext F3) ⟨a, .slice (some ⟨q2, 0, none⟩) 2 2, rfl, hG.ext F3, ⟨_, _, rfl, Nat.le_refl _, hbv⟩⟩ hlen
      have hwo := fun (w' : World) (e : Ext w1 w') => works_any w' ((hO.ext hE1).ext e)
      rw [hw] at hck
      clear hw hlen B2 B3 hG hB F0
      cases hv
      · rw [if_neg (by decide)] at hck
        go_wp2_with (first | (refine wpList_load_by rfl rfl ?_ hld ?_; (· rfl)) | (go_at_call 7; (with_reducible refine hck.mono ?_); rintro e Y2 ⟨rfl, hE4⟩) | (go_at_call 8; (with_reducible refine (hwo _ (F3.trans hE4)).mono ?_); rintro e Y3 ⟨rfl, hE5⟩))
        go_ret
        exact ⟨rfl, hE1.trans ((F3.trans hE4).trans hE5)⟩
      · rw [if_pos rfl] at hck
        go_wp2_with (first | (refine wpList_load_by rfl rfl ?_ hld ?_; (· rfl)) | (go_at_call 7; (with_reducible refine hck.mono ?_); rintro e Y2 ⟨rfl, hE4⟩) | (go_at_call 8; (with_reducible refine (hwo _ (F3.trans hE4)).mono ?_); rintro e Y3 ⟨rfl, hE5⟩))
        go_ret
        exact ⟨rfl, hE1.trans ((F3.trans hE4).trans hE5)⟩
set_option maxHeartbeats 9000000 in
set_option maxRecDepth 100000 in
theorem fields_4 (w : World) (kind field n : Int) (k0 n0 : Nat) (hk0 : k0 < 8) (hn0 : n0 < 64) (hO : OfAt w)
    (hpk : ∀ w', Calls Tryd.prog 5 #[.int .i64 kind, .int .i64 8] w' fun e w'' => e = .returned (.int .i64 k0) ∧ w' = w'')
    (hpn : ∀ w', Calls Tryd.prog 5 #[.int .i64 n, .int .i64 64] w' fun e w'' => e = .returned (.int .i64 n0) ∧ w' = w'')
    (hpf : ∀ w', Calls Tryd.prog 5 #[.int .i64 field, .int .i64 8] w' fun e w'' => e = .returned (.int .i64 4) ∧ w' = w'') :
    Calls Tryd.prog 3 #[.int .i64 kind, .int .i64 field, .int .i64 n] w fun e w' => e = .returned (.bool true) ∧ Ext w w' := by
  obtain ⟨k, hk⟩ : ∃ k : Nat, 1 + (k0 : Int) = k := ⟨k0 + 1, by omega⟩
  obtain ⟨m, hm⟩ : ∃ m : Nat, 1 + (n0 : Int) = m := ⟨n0 + 1, by omega⟩
  have hk1 : 1 ≤ k := by omega
  have hk8 : k ≤ 8 := by omega
  have hm1 : 1 ≤ m := by omega
  have hm6 : m ≤ 64 := by omega
  have hask := fun (w' : World) => ask_any w' k ⟨hk1, hk8⟩
  have HK := Lib.hid hk
  have HM := Lib.hid hm
  clear hk hm
  go_enter Tryd.func3, Tryd.ntmps3
  go_upto_region 3 with (go_at_call 5; (with_reducible first | refine (hpk _).mono ?_ | refine (hpn _).mono ?_); rintro e w1 ⟨rfl, rfl⟩)
  rw [HK.out, HM.out]
  clear hpk hpn HK HM
  go_upto_region 4 with (first | (go_at_call 6; (with_reducible refine (hask _).mono ?_); rintro e w1 ⟨C, rfl, hC, hE1⟩; obtain ⟨z1, z2⟩ := hC.row; obtain ⟨V, hr, BV, hEV⟩ := box_row w1 32 #[.int .i64 0, .string ⟨#[]⟩, .int .i64 0, .slice none 0 0, .int .u8 0, .int .u8 0, .int .u8 0, .int .u8 0, .int .u8 0, .int .u8 0, .int .u8 0, .int .u8 0, .int .u8 0, .int .u8 0, .int .u8 0, .int .u8 0, .int .u8 0, .int .u8 0, .int .u8 0, .int .u8 0, .int .u8 0, .int .u8 0, .int .u8 0, .int .u8 0, .int .u8 0, .int .u8 0, .int .u8 0, .int .u8 0, .int .u8 0, .int .u8 0, .int .u8 0, .int .u8 0, .int .u8 0, .int .u8 0, .int .u8 0, .int .u8 0, .string ⟨#[]⟩, .string ⟨#[]⟩, .int .i64 0, .slice none 0 0, .int .i64 0, .int .i64 0, .int .i64 0, .string ⟨#[]⟩, .bool false, .int .i64 0, .int .i64 0] C z1.symm (by rw [z1]; kernel_rfl) z2) | (refine wpList_store_by rfl rfl ?_ ?_ hr ?_; (· rfl); (· rfl)))
  obtain ⟨a, b, rfl, hG, hB⟩ := hC
  have ld := load_whole BV 32 _ Tryd.underlying32 rfl (by kernel_rfl)
  have hck := ccheckq_any V (askG k) _ (hO.ext (hE1.trans hEV)) ⟨a, b, rfl, hG.ext hEV, hB.ext hEV⟩ (ask_len k ⟨hk1, hk8⟩)
  rw [ask_fine k ⟨hk1, hk8⟩] at hck
  obtain ⟨g, hg⟩ : ∃ z, w1.heap.size = z := ⟨_, rfl⟩
  rw [hg] at hr BV ld
  have hgV : w1.heap.size ≤ g := Nat.le_of_eq hg
  rw [hg]
  clear hg
  go_upto_region 6 with (first | (refine wpList_load_by rfl rfl ?_ ld ?_; (· rfl)) | (go_at_call 7; (with_reducible refine hck.mono ?_); rintro e V2 ⟨rfl, hE2⟩))
  clear hr ld hck z1 z2
  have BR := Blk.new V2 9 rowsA
  have hER : Ext V2 (V2.alloc (.cells rowsA 9)) := (Ext.refl _).alloc _
  obtain ⟨R, hR⟩ : ∃ z, V2.alloc (.cells rowsA 9) = z := ⟨_, rfl⟩
  rw [hR] at BR hER
  unfold rowsA at hR
  go_upto_region 8 with (go_at_call 5; (with_reducible refine (hpf _).mono ?_); rintro e w1 ⟨rfl, rfl⟩)
  clear hR hpf
  rw [show (({ data := #[115, 117, 101, 98, 102, 99, 103, 105] } : ByteArray)[4]).toNat = 102 from rfl]
  have xk := BR.cell k (rowsA_at k hk8)
  have hsz := rowS_size k hk8
  obtain ⟨s, hs⟩ : ∃ s, rowS k = s := ⟨_, rfl⟩
  obtain ⟨x, hx⟩ : ∃ x, letS 4 = x := ⟨_, rfl⟩
  have hx' : x.toNat = 102 := by rw [← hx]; rfl
  rw [hs] at xk hsz
  have HS := Lib.hid hs
  have HX := Lib.hid hx
  rw [← hx']
  have HX' := Lib.hid hx'
  clear hs hx hx' BR
  generalize V2.heap.size = q at *
  have hEV2 := (hE1.trans hEV).trans (hE2.trans hER)
  have hV2 := hE2.trans hER
  clear hE2 hER
  go_upto_region 10 with fail
  go_loopw [10, 11] (fun h i wr => ∃ j : Nat, j ≤ s.size ∧ i = .int .i64 j ∧ h = .bool ((s.data.toList.take j).contains x) ∧ Ext R wr) (fun _ i _ => s.size - (intOf i).toNat)
  case atStart => exact ⟨0, by omega, rfl, rfl, Ext.refl _⟩
  case round =>
    obtain ⟨j, hj, rfl, rfl, hE3⟩ := hrel
    have xk := hE3.cellk xk
    by_cases hlt : j < s.size
    · have ht : s.data.toList.take (j + 1) = s.data.toList.take j ++ [s[j]] := by rw [List.take_succ_eq_append_getElem (by simpa using hlt)]; rfl
      have HT := Lib.hid ht
      clear ht
      obtain ⟨bb, hbb⟩ : ∃ z, (s.data.toList.take j).contains x = z := ⟨_, rfl⟩
      rw [hbb]
      have HB := Lib.hid hbb
      clear hbb
      cases bb
      · go_wp2_with fail
        go_roundw
        case rel =>
          refine ⟨j + 1, by omega, by go_num, ?_, by first | assumption | (repeat (first | assumption | exact Ext.refl _ | refine Ext.drew ?_ | refine Ext.alloc ?_ _ | refine Ext.drewN ?_ _ | refine Ext.trans ?_ (by assumption)))⟩
          rw [HT.out, contains_snoc, HB.out, Bool.false_or, u8_beq]
        case measure => simp [intOf]; omega
      · go_wp2_with fail
        go_roundw
        case rel =>
          refine ⟨j + 1, by omega, by go_num, ?_, by first | assumption | (repeat (first | assumption | exact Ext.refl _ | refine Ext.drew ?_ | refine Ext.alloc ?_ _ | refine Ext.drewN ?_ _ | refine Ext.trans ?_ (by assumption)))⟩
          rw [HT.out, contains_snoc, HB.out, Bool.true_or]
        case measure => simp [intOf]; omega
    · obtain rfl : j = s.size := by omega
      obtain ⟨hv, hhv⟩ : ∃ z, (s.data.toList.take s.size).contains x = z := ⟨_, rfl⟩
      rw [hhv]
      rw [List.take_of_length_le (by rw [ba_len]; exact Nat.le_refl _)] at hhv
      have hw := set_cmd k ⟨hk1, hk8⟩ 4 (by decide) m ⟨hm1, hm6⟩
      rw [HS.out, HX.out, hhv] at hw
      rw [HX'.out, show ((102 : Nat) : Int) = 102 from rfl]
      have B2 := BV.ext (hV2.trans hE3)
      have hCg := hEV2.trans hE3
      have hlen := set_len k ⟨hk1, hk8⟩ 4 (by decide) m
      have hOw := hO.ext hCg
      clear HS HX HX' hhv
      have F0 := (hEV.trans hV2).trans hE3
      clear hE3
      have cz := B2.cell 40 (v := .int .i64 (askG k).fr) rfl
      have cf := B2.frozen 40
      go_upto_region 31 with fail
      have B3 : Blk (wr.setCell ⟨g, 40, none⟩ (.int .i64 m)) g 32 (cmdA (fSet (askG k) 4 m) a b) := by
        have e : (cmdA (askG k) a b).setIfInBounds 40 (.int .i64 m) = cmdA (fSet (askG k) 4 m) a b := rfl
        rw [← e]; exact B2.set_ 40 _
      have F3 : Ext w1 (wr.setCell ⟨g, 40, none⟩ (.int .i64 m)) := Ext.set F0 (p := ⟨g, 40, none⟩) hgV _
      clear cz cf xk
      generalize wr.setCell ⟨g, 40, none⟩ (.int .i64 m) = Y at B3 F3 ⊢
      have hld := load_whole B3 32 _ Tryd.underlying32 rfl (by kernel_rfl)
      have hck := ccheckq_any _ (fSet (askG k) 4 m) _ ((hO.ext hE1).ext F3) ⟨a, b, rfl, hG.ext F3, hB.ext F3⟩ hlen
      have hwo := fun (w' : World) (e : Ext w1 w') => works_any w' ((hO.ext hE1).ext e)
      rw [hw] at hck
      clear hw hlen B2 B3 hG hB F0
      cases hv
      · rw [if_neg (by decide)] at hck
        go_wp2_with (first | (refine wpList_load_by rfl rfl ?_ hld ?_; (· rfl)) | (go_at_call 7; (with_reducible refine hck.mono ?_); rintro e Y2 ⟨rfl, hE4⟩) | (go_at_call 8; (with_reducible refine (hwo _ (F3.trans hE4)).mono ?_); rintro e Y3 ⟨rfl, hE5⟩))
        go_ret
        exact ⟨rfl, hE1.trans ((F3.trans hE4).trans hE5)⟩
      · rw [if_pos rfl] at hck
        go_wp2_with (first | (refine wpList_load_by rfl rfl ?_ hld ?_; (· rfl)) | (go_at_call 7; (with_reducible refine hck.mono ?_); rintro e Y2 ⟨rfl, hE4⟩) | (go_at_call 8; (with_reducible refine (hwo _ (F3.trans hE4)).mono ?_); rintro e Y3 ⟨rfl, hE5⟩))
        go_ret
        exact ⟨rfl, hE1.trans ((F3.trans hE4).trans hE5)⟩
set_option maxHeartbeats 9000000 in
set_option maxRecDepth 100000 in
theorem fields_5 (w : World) (kind field n : Int) (k0 n0 : Nat) (hk0 : k0 < 8) (hn0 : n0 < 64) (hO : OfAt w)
    (hpk : ∀ w', Calls Tryd.prog 5 #[.int .i64 kind, .int .i64 8] w' fun e w'' => e = .returned (.int .i64 k0) ∧ w' = w'')
    (hpn : ∀ w', Calls Tryd.prog 5 #[.int .i64 n, .int .i64 64] w' fun e w'' => e = .returned (.int .i64 n0) ∧ w' = w'')
    (hpf : ∀ w', Calls Tryd.prog 5 #[.int .i64 field, .int .i64 8] w' fun e w'' => e = .returned (.int .i64 5) ∧ w' = w'') :
    Calls Tryd.prog 3 #[.int .i64 kind, .int .i64 field, .int .i64 n] w fun e w' => e = .returned (.bool true) ∧ Ext w w' := by
  obtain ⟨k, hk⟩ : ∃ k : Nat, 1 + (k0 : Int) = k := ⟨k0 + 1, by omega⟩
  obtain ⟨m, hm⟩ : ∃ m : Nat, 1 + (n0 : Int) = m := ⟨n0 + 1, by omega⟩
  have hk1 : 1 ≤ k := by omega
  have hk8 : k ≤ 8 := by omega
  have hm1 : 1 ≤ m := by omega
  have hm6 : m ≤ 64 := by omega
  have hask := fun (w' : World) => ask_any w' k ⟨hk1, hk8⟩
  have HK := Lib.hid hk
  have HM := Lib.hid hm
  clear hk hm
  go_enter Tryd.func3, Tryd.ntmps3
  go_upto_region 3 with (go_at_call 5; (with_reducible first | refine (hpk _).mono ?_ | refine (hpn _).mono ?_); rintro e w1 ⟨rfl, rfl⟩)
  rw [HK.out, HM.out]
  clear hpk hpn HK HM
  go_upto_region 4 with (first | (go_at_call 6; (with_reducible refine (hask _).mono ?_); rintro e w1 ⟨C, rfl, hC, hE1⟩; obtain ⟨z1, z2⟩ := hC.row; obtain ⟨V, hr, BV, hEV⟩ := box_row w1 32 #[.int .i64 0, .string ⟨#[]⟩, .int .i64 0, .slice none 0 0, .int .u8 0, .int .u8 0, .int .u8 0, .int .u8 0, .int .u8 0, .int .u8 0, .int .u8 0, .int .u8 0, .int .u8 0, .int .u8 0, .int .u8 0, .int .u8 0, .int .u8 0, .int .u8 0, .int .u8 0, .int .u8 0, .int .u8 0, .int .u8 0, .int .u8 0, .int .u8 0, .int .u8 0, .int .u8 0, .int .u8 0, .int .u8 0, .int .u8 0, .int .u8 0, .int .u8 0, .int .u8 0, .int .u8 0, .int .u8 0, .int .u8 0, .int .u8 0, .string ⟨#[]⟩, .string ⟨#[]⟩, .int .i64 0, .slice none 0 0, .int .i64 0, .int .i64 0, .int .i64 0, .string ⟨#[]⟩, .bool false, .int .i64 0, .int .i64 0] C z1.symm (by rw [z1]; kernel_rfl) z2) | (refine wpList_store_by rfl rfl ?_ ?_ hr ?_; (· rfl); (· rfl)))
  obtain ⟨a, b, rfl, hG, hB⟩ := hC
  have ld := load_whole BV 32 _ Tryd.underlying32 rfl (by kernel_rfl)
  have hck := ccheckq_any V (askG k) _ (hO.ext (hE1.trans hEV)) ⟨a, b, rfl, hG.ext hEV, hB.ext hEV⟩ (ask_len k ⟨hk1, hk8⟩)
  rw [ask_fine k ⟨hk1, hk8⟩] at hck
  obtain ⟨g, hg⟩ : ∃ z, w1.heap.size = z := ⟨_, rfl⟩
  rw [hg] at hr BV ld
  have hgV : w1.heap.size ≤ g := Nat.le_of_eq hg
  rw [hg]
  clear hg
  go_upto_region 6 with (first | (refine wpList_load_by rfl rfl ?_ ld ?_; (· rfl)) | (go_at_call 7; (with_reducible refine hck.mono ?_); rintro e V2 ⟨rfl, hE2⟩))
  clear hr ld hck z1 z2
  have BR := Blk.new V2 9 rowsA
  have hER : Ext V2 (V2.alloc (.cells rowsA 9)) := (Ext.refl _).alloc _
  obtain ⟨R, hR⟩ : ∃ z, V2.alloc (.cells rowsA 9) = z := ⟨_, rfl⟩
  rw [hR] at BR hER
  unfold rowsA at hR
  go_upto_region 8 with (go_at_call 5; (with_reducible refine (hpf _).mono ?_); rintro e w1 ⟨rfl, rfl⟩)
  clear hR hpf
  rw [show (({ data := #[115, 117, 101, 98, 102, 99, 103, 105] } : ByteArray)[5]).toNat = 99 from rfl]
  have xk := BR.cell k (rowsA_at k hk8)
  have hsz := rowS_size k hk8
  obtain ⟨s, hs⟩ : ∃ s, rowS k = s := ⟨_, rfl⟩
  obtain ⟨x, hx⟩ : ∃ x, letS 5 = x := ⟨_, rfl⟩
  have hx' : x.toNat = 99 := by rw [← hx]; rfl
  rw [hs] at xk hsz
  have HS := Lib.hid hs
  have HX := Lib.hid hx
  rw [← hx']
  have HX' := Lib.hid hx'
  clear hs hx hx' BR
  generalize V2.heap.size = q at *
  have hEV2 := (hE1.trans hEV).trans (hE2.trans hER)
  have hV2 := hE2.trans hER
  clear hE2 hER
  go_upto_region 10 with fail
  go_loopw [10, 11] (fun h i wr => ∃ j : Nat, j ≤ s.size ∧ i = .int .i64 j ∧ h = .bool ((s.data.toList.take j).contains x) ∧ Ext R wr) (fun _ i _ => s.size - (intOf i).toNat)
  case atStart => exact ⟨0, by omega, rfl, rfl, Ext.refl _⟩
  case round =>
    obtain ⟨j, hj, rfl, rfl, hE3⟩ := hrel
    have xk := hE3.cellk xk
    by_cases hlt : j < s.size
    · have ht : s.data.toList.take (j + 1) = s.data.toList.take j ++ [s[j]] := by rw [List.take_succ_eq_append_getElem (by simpa using hlt)]; rfl
      have HT := Lib.hid ht
      clear ht
      obtain ⟨bb, hbb⟩ : ∃ z, (s.data.toList.take j).contains x = z := ⟨_, rfl⟩
      rw [hbb]
      have HB := Lib.hid hbb
      clear hbb
      cases bb
      · go_wp2_with fail
        go_roundw
        case rel =>
          refine ⟨j + 1, by omega, by go_num, ?_, by first | assumption | (repeat (first | assumption | exact Ext.refl _ | refine Ext.drew ?_ | refine Ext.alloc ?_ _ | refine Ext.drewN ?_ _ | refine Ext.trans ?_ (by assumption)))⟩
          rw [HT.out, contains_snoc, HB.out, Bool.false_or, u8_beq]
        case measure => simp [intOf]; omega
      · go_wp2_with fail
        go_roundw
        case rel =>
          refine ⟨j + 1, by omega, by go_num, ?_, by first | assumption | (repeat (first | assumption | exact Ext.refl _ | refine Ext.drew ?_ | refine Ext.alloc ?_ _ | refine Ext.drewN ?_ _ | refine Ext.trans ?_ (by assumption)))⟩
          rw [HT.out, contains_snoc, HB.out, Bool.true_or]
        case measure => simp [intOf]; omega
    · obtain rfl : j = s.size := by omega
      obtain ⟨hv, hhv⟩ : ∃ z, (s.data.toList.take s.size).contains x = z := ⟨_, rfl⟩
      rw [hhv]
      rw [List.take_of_length_le (by rw [ba_len]; exact Nat.le_refl _)] at hhv
      have hw := set_cmd k ⟨hk1, hk8⟩ 5 (by decide) m ⟨hm1, hm6⟩
      rw [HS.out, HX.out, hhv] at hw
      rw [HX'.out, show ((99 : Nat) : Int) = 99 from rfl]
      have B2 := BV.ext (hV2.trans hE3)
      have hCg := hEV2.trans hE3
      have hlen := set_len k ⟨hk1, hk8⟩ 5 (by decide) m
      have hOw := hO.ext hCg
      clear HS HX HX' hhv
      have F0 := (hEV.trans hV2).trans hE3
      clear hE3
      have cz := B2.cell 41 (v := .int .i64 (askG k).ct) rfl
      have cf := B2.frozen 41
      go_upto_region 31 with fail
      have B3 : Blk (wr.setCell ⟨g, 41, none⟩ (.int .i64 m)) g 32 (cmdA (fSet (askG k) 5 m) a b) := by
        have e : (cmdA (askG k) a b).setIfInBounds 41 (.int .i64 m) = cmdA (fSet (askG k) 5 m) a b := rfl
        rw [← e]; exact B2.set_ 41 _
      have F3 : Ext w1 (wr.setCell ⟨g, 41, none⟩ (.int .i64 m)) := Ext.set F0 (p := ⟨g, 41, none⟩) hgV _
      clear cz cf xk
      generalize wr.setCell ⟨g, 41, none⟩ (.int .i64 m) = Y at B3 F3 ⊢
      have hld := load_whole B3 32 _ Tryd.underlying32 rfl (by kernel_rfl)
      have hck := ccheckq_any _ (fSet (askG k) 5 m) _ ((hO.ext hE1).ext F3) ⟨a, b, rfl, hG.ext F3, hB.ext F3⟩ hlen
      have hwo := fun (w' : World) (e : Ext w1 w') => works_any w' ((hO.ext hE1).ext e)
      rw [hw] at hck
      clear hw hlen B2 B3 hG hB F0
      cases hv
      · rw [if_neg (by decide)] at hck
        go_wp2_with (first | (refine wpList_load_by rfl rfl ?_ hld ?_; (· rfl)) | (go_at_call 7; (with_reducible refine hck.mono ?_); rintro e Y2 ⟨rfl, hE4⟩) | (go_at_call 8; (with_reducible refine (hwo _ (F3.trans hE4)).mono ?_); rintro e Y3 ⟨rfl, hE5⟩))
        go_ret
        exact ⟨rfl, hE1.trans ((F3.trans hE4).trans hE5)⟩
      · rw [if_pos rfl] at hck
        go_wp2_with (first | (refine wpList_load_by rfl rfl ?_ hld ?_; (· rfl)) | (go_at_call 7; (with_reducible refine hck.mono ?_); rintro e Y2 ⟨rfl, hE4⟩) | (go_at_call 8; (with_reducible refine (hwo _ (F3.trans hE4)).mono ?_); rintro e Y3 ⟨rfl, hE5⟩))
        go_ret
        exact ⟨rfl, hE1.trans ((F3.trans hE4).trans hE5)⟩
set_option maxHeartbeats 9000000 in
set_option maxRecDepth 100000 in
theorem fields_6 (w : World) (kind field n : Int) (k0 n0 : Nat) (hk0 : k0 < 8) (hn0 : n0 < 64) (hO : OfAt w)
    (hpk : ∀ w', Calls Tryd.prog 5 #[.int .i64 kind, .int .i64 8] w' fun e w'' => e = .returned (.int .i64 k0) ∧ w' = w'')
    (hpn : ∀ w', Calls Tryd.prog 5 #[.int .i64 n, .int .i64 64] w' fun e w'' => e = .returned (.int .i64 n0) ∧ w' = w'')
    (hpf : ∀ w', Calls Tryd.prog 5 #[.int .i64 field, .int .i64 8] w' fun e w'' => e = .returned (.int .i64 6) ∧ w' = w'') :
    Calls Tryd.prog 3 #[.int .i64 kind, .int .i64 field, .int .i64 n] w fun e w' => e = .returned (.bool true) ∧ Ext w w' := by
  obtain ⟨k, hk⟩ : ∃ k : Nat, 1 + (k0 : Int) = k := ⟨k0 + 1, by omega⟩
  obtain ⟨m, hm⟩ : ∃ m : Nat, 1 + (n0 : Int) = m := ⟨n0 + 1, by omega⟩
  have hk1 : 1 ≤ k := by omega
  have hk8 : k ≤ 8 := by omega
  have hm1 : 1 ≤ m := by omega
  have hm6 : m ≤ 64 := by omega
  have hask := fun (w' : World) => ask_any w' k ⟨hk1, hk8⟩
  have HK := Lib.hid hk
  have HM := Lib.hid hm
  clear hk hm
  go_enter Tryd.func3, Tryd.ntmps3
  go_upto_region 3 with (go_at_call 5; (with_reducible first | refine (hpk _).mono ?_ | refine (hpn _).mono ?_); rintro e w1 ⟨rfl, rfl⟩)
  rw [HK.out, HM.out]
  clear hpk hpn HK HM
  go_upto_region 4 with (first | (go_at_call 6; (with_reducible refine (hask _).mono ?_); rintro e w1 ⟨C, rfl, hC, hE1⟩; obtain ⟨z1, z2⟩ := hC.row; obtain ⟨V, hr, BV, hEV⟩ := box_row w1 32 #[.int .i64 0, .string ⟨#[]⟩, .int .i64 0, .slice none 0 0, .int .u8 0, .int .u8 0, .int .u8 0, .int .u8 0, .int .u8 0, .int .u8 0, .int .u8 0, .int .u8 0, .int .u8 0, .int .u8 0, .int .u8 0, .int .u8 0, .int .u8 0, .int .u8 0, .int .u8 0, .int .u8 0, .int .u8 0, .int .u8 0, .int .u8 0, .int .u8 0, .int .u8 0, .int .u8 0, .int .u8 0, .int .u8 0, .int .u8 0, .int .u8 0, .int .u8 0, .int .u8 0, .int .u8 0, .int .u8 0, .int .u8 0, .int .u8 0, .string ⟨#[]⟩, .string ⟨#[]⟩, .int .i64 0, .slice none 0 0, .int .i64 0, .int .i64 0, .int .i64 0, .string ⟨#[]⟩, .bool false, .int .i64 0, .int .i64 0] C z1.symm (by rw [z1]; kernel_rfl) z2) | (refine wpList_store_by rfl rfl ?_ ?_ hr ?_; (· rfl); (· rfl)))
  obtain ⟨a, b, rfl, hG, hB⟩ := hC
  have ld := load_whole BV 32 _ Tryd.underlying32 rfl (by kernel_rfl)
  have hck := ccheckq_any V (askG k) _ (hO.ext (hE1.trans hEV)) ⟨a, b, rfl, hG.ext hEV, hB.ext hEV⟩ (ask_len k ⟨hk1, hk8⟩)
  rw [ask_fine k ⟨hk1, hk8⟩] at hck
  obtain ⟨g, hg⟩ : ∃ z, w1.heap.size = z := ⟨_, rfl⟩
  rw [hg] at hr BV ld
  have hgV : w1.heap.size ≤ g := Nat.le_of_eq hg
  rw [hg]
  clear hg
  go_upto_region 6 with (first | (refine wpList_load_by rfl rfl ?_ ld ?_; (· rfl)) | (go_at_call 7; (with_reducible refine hck.mono ?_); rintro e V2 ⟨rfl, hE2⟩))
  clear hr ld hck z1 z2
  have BR := Blk.new V2 9 rowsA
  have hER : Ext V2 (V2.alloc (.cells rowsA 9)) := (Ext.refl _).alloc _
  obtain ⟨R, hR⟩ : ∃ z, V2.alloc (.cells rowsA 9) = z := ⟨_, rfl⟩
  rw [hR] at BR hER
  unfold rowsA at hR
  go_upto_region 8 with (go_at_call 5; (with_reducible refine (hpf _).mono ?_); rintro e w1 ⟨rfl, rfl⟩)
  clear hR hpf
  rw [show (({ data := #[115, 117, 101, 98, 102, 99, 103, 105] } : ByteArray)[6]).toNat = 103 from rfl]
  have xk := BR.cell k (rowsA_at k hk8)
  have hsz := rowS_size k hk8
  obtain ⟨s, hs⟩ : ∃ s, rowS k = s := ⟨_, rfl⟩
  obtain ⟨x, hx⟩ : ∃ x, letS 6 = x := ⟨_, rfl⟩
  have hx' : x.toNat = 103 := by rw [← hx]; rfl
  rw [hs] at xk hsz
  have HS := Lib.hid hs
  have HX := Lib.hid hx
  rw [← hx']
  have HX' := Lib.hid hx'
  clear hs hx hx' BR
  generalize V2.heap.size = q at *
  have hEV2 := (hE1.trans hEV).trans (hE2.trans hER)
  have hV2 := hE2.trans hER
  clear hE2 hER
  go_upto_region 10 with fail
  go_loopw [10, 11] (fun h i wr => ∃ j : Nat, j ≤ s.size ∧ i = .int .i64 j ∧ h = .bool ((s.data.toList.take j).contains x) ∧ Ext R wr) (fun _ i _ => s.size - (intOf i).toNat)
  case atStart => exact ⟨0, by omega, rfl, rfl, Ext.refl _⟩
  case round =>
    obtain ⟨j, hj, rfl, rfl, hE3⟩ := hrel
    have xk := hE3.cellk xk
    by_cases hlt : j < s.size
    · have ht : s.data.toList.take (j + 1) = s.data.toList.take j ++ [s[j]] := by rw [List.take_succ_eq_append_getElem (by simpa using hlt)]; rfl
      have HT := Lib.hid ht
      clear ht
      obtain ⟨bb, hbb⟩ : ∃ z, (s.data.toList.take j).contains x = z := ⟨_, rfl⟩
      rw [hbb]
      have HB := Lib.hid hbb
      clear hbb
      cases bb
      · go_wp2_with fail
        go_roundw
        case rel =>
          refine ⟨j + 1, by omega, by go_num, ?_, by first | assumption | (repeat (first | assumption | exact Ext.refl _ | refine Ext.drew ?_ | refine Ext.alloc ?_ _ | refine Ext.drewN ?_ _ | refine Ext.trans ?_ (by assumption)))⟩
          rw [HT.out, contains_snoc, HB.out, Bool.false_or, u8_beq]
        case measure => simp [intOf]; omega
      · go_wp2_with fail
        go_roundw
        case rel =>
          refine ⟨j + 1, by omega, by go_num, ?_, by first | assumption | (repeat (first | assumption | exact Ext.refl _ | refine Ext.drew ?_ | refine Ext.alloc ?_ _ | refine Ext.drewN ?_ _ | refine Ext.trans ?_ (by assumption)))⟩
          rw [HT.out, contains_snoc, HB.out, Bool.true_or]
        case measure => simp [intOf]; omega
    · obtain rfl : j = s.size := by omega
      obtain ⟨hv, hhv⟩ : ∃ z, (s.data.toList.take s.size).contains x = z := ⟨_, rfl⟩
      rw [hhv]
      rw [List.take_of_length_le (by rw [ba_len]; exact Nat.le_refl _)] at hhv
      have hw := set_cmd k ⟨hk1, hk8⟩ 6 (by decide) m ⟨hm1, hm6⟩
      rw [HS.out, HX.out, hhv] at hw
      rw [HX'.out, show ((103 : Nat) : Int) = 103 from rfl]
      have B2 := BV.ext (hV2.trans hE3)
      have hCg := hEV2.trans hE3
      have hlen := set_len k ⟨hk1, hk8⟩ 6 (by decide) m
      have hOw := hO.ext hCg
      clear HS HX HX' hhv
      have F0 := (hEV.trans hV2).trans hE3
      clear hE3
      obtain ⟨Y, hr, B3, hX⟩ := store_part B2 42 (grA ⟨m, ⟨#[]⟩, false, 0⟩) ((cmdA (askG k) a b).toList.take 42) [.int .i64 (askG k).gr.r, .string (askG k).gr.p, .bool (askG k).gr.x, .int .i64 (askG k).gr.u] [.int .i64 (askG k).id] rfl rfl rfl 30 (by kernel_rfl) (by simp [grA, oc_int, oc_str, oc_bool])
      have B3 : Blk Y g 32 (cmdA (fSet (askG k) 6 m) a b) := B3
      have F3 : Ext w1 Y := Exc.ext F0 hX hgV
      unfold grA at hr
      go_upto_region 31 with (refine wpList_store_by rfl rfl ?_ ?_ hr ?_; (· rfl); (· rfl))
      clear xk hr hX
      have hld := load_whole B3 32 _ Tryd.underlying32 rfl (by kernel_rfl)
      have hck := ccheckq_any _ (fSet (askG k) 6 m) _ ((hO.ext hE1).ext F3) ⟨a, b, rfl, hG.ext F3, hB.ext F3⟩ hlen
      have hwo := fun (w' : World) (e : Ext w1 w') => works_any w' ((hO.ext hE1).ext e)
      rw [hw] at hck
      clear hw hlen B2 B3 hG hB F0
      cases hv
      · rw [if_neg (by decide)] at hck
        go_wp2_with (first | (refine wpList_load_by rfl rfl ?_ hld ?_; (· rfl)) | (go_at_call 7; (with_reducible refine hck.mono ?_); rintro e Y2 ⟨rfl, hE4⟩) | (go_at_call 8; (with_reducible refine (hwo _ (F3.trans hE4)).mono ?_); rintro e Y3 ⟨rfl, hE5⟩))
        go_ret
        exact ⟨rfl, hE1.trans ((F3.trans hE4).trans hE5)⟩
      · rw [if_pos rfl] at hck
        go_wp2_with (first | (refine wpList_load_by rfl rfl ?_ hld ?_; (· rfl)) | (go_at_call 7; (with_reducible refine hck.mono ?_); rintro e Y2 ⟨rfl, hE4⟩) | (go_at_call 8; (with_reducible refine (hwo _ (F3.trans hE4)).mono ?_); rintro e Y3 ⟨rfl, hE5⟩))
        go_ret
        exact ⟨rfl, hE1.trans ((F3.trans hE4).trans hE5)⟩
set_option maxHeartbeats 9000000 in
set_option maxRecDepth 100000 in
theorem fields_7 (w : World) (kind field n : Int) (k0 n0 : Nat) (hk0 : k0 < 8) (hn0 : n0 < 64) (hO : OfAt w)
    (hpk : ∀ w', Calls Tryd.prog 5 #[.int .i64 kind, .int .i64 8] w' fun e w'' => e = .returned (.int .i64 k0) ∧ w' = w'')
    (hpn : ∀ w', Calls Tryd.prog 5 #[.int .i64 n, .int .i64 64] w' fun e w'' => e = .returned (.int .i64 n0) ∧ w' = w'')
    (hpf : ∀ w', Calls Tryd.prog 5 #[.int .i64 field, .int .i64 8] w' fun e w'' => e = .returned (.int .i64 7) ∧ w' = w'') :
    Calls Tryd.prog 3 #[.int .i64 kind, .int .i64 field, .int .i64 n] w fun e w' => e = .returned (.bool true) ∧ Ext w w' := by
  obtain ⟨k, hk⟩ : ∃ k : Nat, 1 + (k0 : Int) = k := ⟨k0 + 1, by omega⟩
  obtain ⟨m, hm⟩ : ∃ m : Nat, 1 + (n0 : Int) = m := ⟨n0 + 1, by omega⟩
  have hk1 : 1 ≤ k := by omega
  have hk8 : k ≤ 8 := by omega
  have hm1 : 1 ≤ m := by omega
  have hm6 : m ≤ 64 := by omega
  have hask := fun (w' : World) => ask_any w' k ⟨hk1, hk8⟩
  have HK := Lib.hid hk
  have HM := Lib.hid hm
  clear hk hm
  go_enter Tryd.func3, Tryd.ntmps3
  go_upto_region 3 with (go_at_call 5; (with_reducible first | refine (hpk _).mono ?_ | refine (hpn _).mono ?_); rintro e w1 ⟨rfl, rfl⟩)
  rw [HK.out, HM.out]
  clear hpk hpn HK HM
  go_upto_region 4 with (first | (go_at_call 6; (with_reducible refine (hask _).mono ?_); rintro e w1 ⟨C, rfl, hC, hE1⟩; obtain ⟨z1, z2⟩ := hC.row; obtain ⟨V, hr, BV, hEV⟩ := box_row w1 32 #[.int .i64 0, .string ⟨#[]⟩, .int .i64 0, .slice none 0 0, .int .u8 0, .int .u8 0, .int .u8 0, .int .u8 0, .int .u8 0, .int .u8 0, .int .u8 0, .int .u8 0, .int .u8 0, .int .u8 0, .int .u8 0, .int .u8 0, .int .u8 0, .int .u8 0, .int .u8 0, .int .u8 0, .int .u8 0, .int .u8 0, .int .u8 0, .int .u8 0, .int .u8 0, .int .u8 0, .int .u8 0, .int .u8 0, .int .u8 0, .int .u8 0, .int .u8 0, .int .u8 0, .int .u8 0, .int .u8 0, .int .u8 0, .int .u8 0, .string ⟨#[]⟩, .string ⟨#[]⟩, .int .i64 0, .slice none 0 0, .int .i64 0, .int .i64 0, .int .i64 0, .string ⟨#[]⟩, .bool false, .int .i64 0, .int .i64 0] C z1.symm (by rw [z1]; kernel_rfl) z2) | (refine wpList_store_by rfl rfl ?_ ?_ hr ?_; (· rfl); (· rfl)))
  obtain ⟨a, b, rfl, hG, hB⟩ := hC
  have ld := load_whole BV 32 _ Tryd.underlying32 rfl (by kernel_rfl)
  have hck := ccheckq_any V (askG k) _ (hO.ext (hE1.trans hEV)) ⟨a, b, rfl, hG.ext hEV, hB.ext hEV⟩ (ask_len k ⟨hk1, hk8⟩)
  rw [ask_fine k ⟨hk1, hk8⟩] at hck
  obtain ⟨g, hg⟩ : ∃ z, w1.heap.size = z := ⟨_, rfl⟩
  rw [hg] at hr BV ld
  have hgV : w1.heap.size ≤ g := Nat.le_of_eq hg
  rw [hg]
  clear hg
  go_upto_region 6 with (first | (refine wpList_load_by rfl rfl ?_ ld ?_; (· rfl)) | (go_at_call 7; (with_reducible refine hck.mono ?_); rintro e V2 ⟨rfl, hE2⟩))
  clear hr ld hck z1 z2
  have BR := Blk.new V2 9 rowsA
  have hER : Ext V2 (V2.alloc (.cells rowsA 9)) := (Ext.refl _).alloc _
  obtain ⟨R, hR⟩ : ∃ z, V2.alloc (.cells rowsA 9) = z := ⟨_, rfl⟩
  rw [hR] at BR hER
  unfold rowsA at hR
  go_upto_region 8 with (go_at_call 5; (with_reducible refine (hpf _).mono ?_); rintro e w1 ⟨rfl, rfl⟩)
  clear hR hpf
  rw [show (({ data := #[115, 117, 101, 98, 102, 99, 103, 105] } : ByteArray)[7]).toNat = 105 from rfl]
  have xk := BR.cell k (rowsA_at k hk8)
  have hsz := rowS_size k hk8
  obtain ⟨s, hs⟩ : ∃ s, rowS k = s := ⟨_, rfl⟩
  obtain ⟨x, hx⟩ : ∃ x, letS 7 = x := ⟨_, rfl⟩
  have hx' : x.toNat = 105 := by rw [← hx]; rfl
  rw [hs] at xk hsz
  have HS := Lib.hid hs
  have HX := Lib.hid hx
  rw [← hx']
  have HX' := Lib.hid hx'
  clear hs hx hx' BR
  generalize V2.heap.size = q at *
  have hEV2 := (hE1.trans hEV).trans (hE2.trans hER)
  have hV2 := hE2.trans hER
  clear hE2 hER
  go_upto_region 10 with fail
  go_loopw [10, 11] (fun h i wr => ∃ j : Nat, j ≤ s.size ∧ i = .int .i64 j ∧ h = .bool ((s.data.toList.take j).contains x) ∧ Ext R wr) (fun _ i _ => s.size - (intOf i).toNat)
  case atStart => exact ⟨0, by omega, rfl, rfl, Ext.refl _⟩
  case round =>
    obtain ⟨j, hj, rfl, rfl, hE3⟩ := hrel
    have xk := hE3.cellk xk
    by_cases hlt : j < s.size
    · have ht : s.data.toList.take (j + 1) = s.data.toList.take j ++ [s[j]] := by rw [List.take_succ_eq_append_getElem (by simpa using hlt)]; rfl
      have HT := Lib.hid ht
      clear ht
      obtain ⟨bb, hbb⟩ : ∃ z, (s.data.toList.take j).contains x = z := ⟨_, rfl⟩
      rw [hbb]
      have HB := Lib.hid hbb
      clear hbb
      cases bb
      · go_wp2_with fail
        go_roundw
        case rel =>
          refine ⟨j + 1, by omega, by go_num, ?_, by first | assumption | (repeat (first | assumption | exact Ext.refl _ | refine Ext.drew ?_ | refine Ext.alloc ?_ _ | refine Ext.drewN ?_ _ | refine Ext.trans ?_ (by assumption)))⟩
          rw [HT.out, contains_snoc, HB.out, Bool.false_or, u8_beq]
        case measure => simp [intOf]; omega
      · go_wp2_with fail
        go_roundw
        case rel =>
          refine ⟨j + 1, by omega, by go_num, ?_, by first | assumption | (repeat (first | assumption | exact Ext.refl _ | refine Ext.drew ?_ | refine Ext.alloc ?_ _ | refine Ext.drewN ?_ _ | refine Ext.trans ?_ (by assumption)))⟩
          rw [HT.out, contains_snoc, HB.out, Bool.true_or]
        case measure => simp [intOf]; omega
    · obtain rfl : j = s.size := by omega
      obtain ⟨hv, hhv⟩ : ∃ z, (s.data.toList.take s.size).contains x = z := ⟨_, rfl⟩
      rw [hhv]
      rw [List.take_of_length_le (by rw [ba_len]; exact Nat.le_refl _)] at hhv
      have hw := set_cmd k ⟨hk1, hk8⟩ 7 (by decide) m ⟨hm1, hm6⟩
      rw [HS.out, HX.out, hhv] at hw
      rw [HX'.out, show ((105 : Nat) : Int) = 105 from rfl]
      have B2 := BV.ext (hV2.trans hE3)
      have hCg := hEV2.trans hE3
      have hlen := set_len k ⟨hk1, hk8⟩ 7 (by decide) m
      have hOw := hO.ext hCg
      clear HS HX HX' hhv
      have F0 := (hEV.trans hV2).trans hE3
      clear hE3
      have cz := B2.cell 46 (v := .int .i64 (askG k).id) rfl
      have cf := B2.frozen 46
      go_upto_region 31 with fail
      have B3 : Blk (wr.setCell ⟨g, 46, none⟩ (.int .i64 m)) g 32 (cmdA (fSet (askG k) 7 m) a b) := by
        have e : (cmdA (askG k) a b).setIfInBounds 46 (.int .i64 m) = cmdA (fSet (askG k) 7 m) a b := rfl
        rw [← e]; exact B2.set_ 46 _
      have F3 : Ext w1 (wr.setCell ⟨g, 46, none⟩ (.int .i64 m)) := Ext.set F0 (p := ⟨g, 46, none⟩) hgV _
      clear cz cf xk
      generalize wr.setCell ⟨g, 46, none⟩ (.int .i64 m) = Y at B3 F3 ⊢
      have hld := load_whole B3 32 _ Tryd.underlying32 rfl (by kernel_rfl)
      have hck := ccheckq_any _ (fSet (askG k) 7 m) _ ((hO.ext hE1).ext F3) ⟨a, b, rfl, hG.ext F3, hB.ext F3⟩ hlen
      have hwo := fun (w' : World) (e : Ext w1 w') => works_any w' ((hO.ext hE1).ext e)
      rw [hw] at hck
      clear hw hlen B2 B3 hG hB F0
      cases hv
      · rw [if_neg (by decide)] at hck
        go_wp2_with (first | (refine wpList_load_by rfl rfl ?_ hld ?_; (· rfl)) | (go_at_call 7; (with_reducible refine hck.mono ?_); rintro e Y2 ⟨rfl, hE4⟩) | (go_at_call 8; (with_reducible refine (hwo _ (F3.trans hE4)).mono ?_); rintro e Y3 ⟨rfl, hE5⟩))
        go_ret
        exact ⟨rfl, hE1.trans ((F3.trans hE4).trans hE5)⟩
      · rw [if_pos rfl] at hck
        go_wp2_with (first | (refine wpList_load_by rfl rfl ?_ hld ?_; (· rfl)) | (go_at_call 7; (with_reducible refine hck.mono ?_); rintro e Y2 ⟨rfl, hE4⟩) | (go_at_call 8; (with_reducible refine (hwo _ (F3.trans hE4)).mono ?_); rintro e Y3 ⟨rfl, hE5⟩))
        go_ret
        exact ⟨rfl, hE1.trans ((F3.trans hE4).trans hE5)⟩
theorem fields_walk (w : World) (kind field n : Int) (hk : intOk kind) (hf : intOk field) (hn : intOk n) (hO : OfAt w) :
    Calls Tryd.prog 3 #[.int .i64 kind, .int .i64 field, .int .i64 n] w fun e w' => e = .returned (.bool true) ∧ Ext w w' := by
  obtain ⟨k0, hk0, ek⟩ := pickv_lt kind 8 (by decide)
  obtain ⟨f0, hf0, ef⟩ := pickv_lt field 8 (by decide)
  obtain ⟨n0, hn0, en⟩ := pickv_lt n 64 (by decide)
  have hpk := fun (w' : World) => pickv_any kind 8 hk (by decide) w'
  have hpf := fun (w' : World) => pickv_any field 8 hf (by decide) w'
  have hpn := fun (w' : World) => pickv_any n 64 hn (by decide) w'
  rw [show (8 : Int) = ((8 : Nat) : Int) from rfl] at hpk hpf
  rw [show (64 : Int) = ((64 : Nat) : Int) from rfl] at hpn
  rw [ek] at hpk
  rw [ef] at hpf
  rw [en] at hpn
  obtain rfl | rfl | rfl | rfl | rfl | rfl | rfl | rfl := (by omega : f0 = 0 ∨ f0 = 1 ∨ f0 = 2 ∨ f0 = 3 ∨ f0 = 4 ∨ f0 = 5 ∨ f0 = 6 ∨ f0 = 7)
  · exact fields_0 w kind field n k0 n0 hk0 hn0 hO hpk hpn hpf
  · exact fields_1 w kind field n k0 n0 hk0 hn0 hO hpk hpn hpf
  · exact fields_2 w kind field n k0 n0 hk0 hn0 hO hpk hpn hpf
  · exact fields_3 w kind field n k0 n0 hk0 hn0 hO hpk hpn hpf
  · exact fields_4 w kind field n k0 n0 hk0 hn0 hO hpk hpn hpf
  · exact fields_5 w kind field n k0 n0 hk0 hn0 hO hpk hpn hpf
  · exact fields_6 w kind field n k0 n0 hk0 hn0 hO hpk hpn hpf
  · exact fields_7 w kind field n k0 n0 hk0 hn0 hO hpk hpn hpf
end Go.Proofs.YtgfhbachgniipaaDoor
