/- What is wrong with an answer, by the program: rows read, the longest ones, the check. (and what follows) -/
import Derived.Test.YtgfhbachgniipaaDoorMz
import Derived.Test.YtgfhbachgniipaaDoorM6
import Derived.Test.YtgfhbachgniipaaDoorM5
set_option linter.unusedVariables false
set_option linter.unusedSimpArgs false
namespace Go.Proofs.YtgfhbachgniipaaDoor
open Go.RowKit
open Go.Shelf
def rdSh : Rd Shn := (Rd.pair Rd.str (Rd.pair Rd.str (Rd.pair (Rd.int .i64) (Rd.pair (Rd.int .i64) (Rd.pair (Rd.int .i64) rdB))))).iso fun x => (x.st, x.su, x.ver, x.pos, x.code, x.body)
def YsV (w : World) (l : List UInt8) (a : Value) : Prop := ∃ A c, a = .slice A l.length c ∧ l.length ≤ c ∧ Rd.u8.Sl w A l.length l
def HsV (w : World) (l : List Shn) (a : Value) : Prop := ∃ A c, a = .slice A l.length c ∧ l.length ≤ c ∧ rdSh.Sl w A l.length l
def EsV (w : World) (l : List Ent) (a : Value) : Prop := ∃ A c, a = .slice A l.length c ∧ l.length ≤ c ∧ rdEn.Sl w A l.length l
theorem YsV.mono {w w' : World} {l : List UInt8} {a : Value} (h : YsV w l a) (k : Cle w w') : YsV w' l a := by
  obtain ⟨A, c, e, h1, h2⟩ := h
  exact ⟨A, c, e, h1, h2.mono k⟩
theorem HsV.mono {w w' : World} {l : List Shn} {a : Value} (h : HsV w l a) (k : Cle w w') : HsV w' l a := by
  obtain ⟨A, c, e, h1, h2⟩ := h
  exact ⟨A, c, e, h1, h2.mono k⟩
theorem EsV.mono {w w' : World} {l : List Ent} {a : Value} (h : EsV w l a) (k : Cle w w') : EsV w' l a := by
  obtain ⟨A, c, e, h1, h2⟩ := h
  exact ⟨A, c, e, h1, h2.mono k⟩
theorem YsV.ext {w w' : World} {l : List UInt8} {a : Value} (h : YsV w l a) (k : Ext w w') : YsV w' l a := h.mono k.cle
theorem HsV.ext {w w' : World} {l : List Shn} {a : Value} (h : HsV w l a) (k : Ext w w') : HsV w' l a := h.mono k.cle
theorem EsV.ext {w w' : World} {l : List Ent} {a : Value} (h : EsV w l a) (k : Ext w w') : EsV w' l a := h.mono k.cle
theorem HsV.nil (w : World) : HsV w [] (.slice none 0 0) := ⟨none, 0, rfl, Nat.le_refl _, Rd.Sl.none _ _ none⟩
theorem EsV.nil (w : World) : EsV w [] (.slice none 0 0) := ⟨none, 0, rfl, Nat.le_refl _, Rd.Sl.none _ _ none⟩
theorem sh_cells {w : World} {x : Shn} {cs : List Value} (h : rdSh.K w x cs) : ∃ b, cs = (shA x b).toList ∧ YsV w x.body b := by
  obtain ⟨_, _, rfl, rfl, _, _, rfl, rfl, _, _, rfl, rfl, _, _, rfl, rfl, _, _, rfl, rfl, A, c, rfl, h1, h2⟩ := h
  exact ⟨_, rfl, A, c, rfl, h1, h2⟩
theorem sh_K {w : World} {x : Shn} {b : Value} (h : YsV w x.body b) : rdSh.K w x (shA x b).toList := by
  obtain ⟨A, c, rfl, h1, h2⟩ := h
  exact ⟨_, _, rfl, rfl, _, _, rfl, rfl, _, _, rfl, rfl, _, _, rfl, rfl, _, _, rfl, rfl, A, c, rfl, h1, h2⟩
theorem el_loadK {α : Type} {d : Rd α} {w : World} {b o : Nat} {n : Nat} {xs : List α} (h : d.Sl w (some ⟨b, o, none⟩) n xs) (k : Nat) (x : α) (hx : xs[k]? = some x) (ty : TypeId) (t : TypeDesc)
    (hu : Tryd.prog.underlying ty = some t) (hd : t.isRow = true) (hi : (Tryd.prog.info? ty).map (·.size) = some d.sz) :
    ∃ cs : List Value, d.K w x cs ∧ ∀ w', Ext w w' → (Instr.loadAt ty (.pointer (some ⟨b, o + k * d.sz, none⟩))).run Tryd.prog w' = .ok (.agg cs.toArray) w' := by
  obtain ⟨hk, hx⟩ := List.getElem?_eq_some_iff.1 hx
  obtain ⟨b', o', cs, e, hk', hc⟩ := h.get k (by rw [← h.1]; exact hk)
  cases e
  rw [hx] at hk'
  have hl := d.len hk'
  exact ⟨cs, hk', fun w' hE => run_loadAt_mid (P := Tryd.prog) w' b (o + k * d.sz) ty cs t (fun j v hv => hE.cellk (hc j v hv)) hu hd (by rw [hi, hl])⟩
set_option maxHeartbeats 1000000 in
set_option maxRecDepth 100000 in
theorem indexH_any (w : World) (A : Option Addr) (c : Nat) (l : List Shn) (hS : rdSh.Sl w A l.length l) (hc : l.length ≤ c) (hn : l.length ≤ 1000000) (ho : ∀ x ∈ l, ∀ (w' : World) (C : List Value), rdSh.K w' x C → Calls Tryd.prog 27 #[.agg C.toArray] w' fun e w'' => e = .returned (.bool (longH x)) ∧ Ext w' w'') :
    Calls Tryd.prog 58 #[.slice A l.length c, .func (.func 27) #[] #[]] w fun e w' => e = .returned (.int .i64 (firstI longH l 0)) ∧ Ext w w' := by
  obtain ⟨v, hv⟩ : ∃ v, firstI longH l 0 = v := ⟨_, rfl⟩
  rw [hv]
  obtain ⟨n, hln⟩ : ∃ n, l.length = n := ⟨_, rfl⟩
  rw [hln] at hS hc hn ⊢
  go_enter Tryd.func58, Tryd.ntmps58
  go_wp2_with fail
  go_loopw [8] (fun i wr => ∃ k : Nat, k ≤ n ∧ i = .int .i64 k ∧ (∀ x ∈ l.take k, longH x = false) ∧ Ext w wr) (fun i _ => n - (intOf i).toNat)
  case atStart => exact ⟨0, by omega, rfl, by simp, Ext.refl _⟩
  case round =>
    obtain ⟨k, hkn, rfl, hd, hwr⟩ := hrel
    by_cases hlt : k < n
    · obtain ⟨b, o, rfl⟩ := el_addr hS k hlt
      obtain ⟨x, hx⟩ : ∃ x, l[k]? = some x := ⟨_, List.getElem?_eq_getElem (by omega)⟩
      obtain ⟨hkl, hxe⟩ := List.getElem?_eq_some_iff.1 hx
      obtain ⟨cs, hK, rx⟩ := el_loadK (hS.ext hwr) k x hx 68 _ Tryd.underlying68 rfl (by kernel_rfl)
      simp only [show rdSh.sz = 6 from rfl] at rx
      have hres : longH x = true → v = (k : Int) := fun h => by rw [← hv, firstI_at longH l 0 k hkl hd (by rw [hxe]; exact h), Nat.zero_add]
      have htk : l.take (k + 1) = l.take k ++ [x] := by rw [List.take_succ_eq_append_getElem hkl, hxe]
      have ho1 := fun (w' : World) (e : Ext wr w') => ho x (by rw [← hxe]; exact List.getElem_mem hkl) w' cs (rdSh.mono e.cle hK)
      obtain ⟨b9, hb⟩ : ∃ b, longH x = b := ⟨_, rfl⟩
      rw [hb] at ho1 hres
      have hY : Ext wr wr := Ext.refl wr
      generalize cs.toArray = C at rx ho1
      clear hS hx hK hxe ho
      cases b9
      · have hrel : ∀ y ∈ l.take (k + 1), longH y = false := by
          rw [htk]
          intro y hy
          rcases List.mem_append.1 hy with hy | hy
          · exact hd y hy
          · obtain rfl : y = x := by simpa using hy
            exact hb
        clear hres hd htk
        go_wp2_with (first | (refine wpList_load_by rfl rfl ?_ (rx _ (by (repeat (first | assumption | exact Ext.refl _ | refine Ext.set ?_ (Nat.le_refl _) _ | refine Ext.drew ?_ | refine Ext.alloc ?_ _ | refine Ext.drewN ?_ _ | refine Ext.trans ?_ (by assumption))))) ?_; (· rfl)) | (go_at_call 27; (with_reducible refine (ho1 _ (by (repeat (first | assumption | exact Ext.refl _ | refine Ext.set ?_ (Nat.le_refl _) _ | refine Ext.drew ?_ | refine Ext.alloc ?_ _ | refine Ext.drewN ?_ _ | refine Ext.trans ?_ (by assumption))))).mono ?_); rintro e w1 ⟨rfl, hE1⟩))
        go_roundw
        case rel => exact ⟨k + 1, by omega, by go_num, hrel, hwr.trans hE1⟩
        case measure => simp [intOf]; omega
      · obtain rfl := hres rfl
        clear hd htk hv
        go_wp2_with (first | (refine wpList_load_by rfl rfl ?_ (rx _ (by (repeat (first | assumption | exact Ext.refl _ | refine Ext.set ?_ (Nat.le_refl _) _ | refine Ext.drew ?_ | refine Ext.alloc ?_ _ | refine Ext.drewN ?_ _ | refine Ext.trans ?_ (by assumption))))) ?_; (· rfl)) | (go_at_call 27; (with_reducible refine (ho1 _ (by (repeat (first | assumption | exact Ext.refl _ | refine Ext.set ?_ (Nat.le_refl _) _ | refine Ext.drew ?_ | refine Ext.alloc ?_ _ | refine Ext.drewN ?_ _ | refine Ext.trans ?_ (by assumption))))).mono ?_); rintro e w1 ⟨rfl, hE1⟩))
        go_ret
        exact ⟨rfl, hwr.trans hE1⟩
    · obtain rfl : k = n := by omega
      rw [← hln, List.take_length] at hd
      have hv2 := firstI_no longH l 0 hd
      rw [hv] at hv2
      go_wp2_with fail
      go_ret
      exact ⟨ret_int hv2.symm, hwr⟩
set_option maxHeartbeats 1000000 in
set_option maxRecDepth 100000 in
theorem containsH_any (w : World) (A : Option Addr) (c : Nat) (l : List Shn) (hS : rdSh.Sl w A l.length l) (hc : l.length ≤ c) (hn : l.length ≤ 1000000) (ho : ∀ x ∈ l, ∀ (w' : World) (C : List Value), rdSh.K w' x C → Calls Tryd.prog 27 #[.agg C.toArray] w' fun e w'' => e = .returned (.bool (longH x)) ∧ Ext w' w'') :
    Calls Tryd.prog 30 #[.slice A l.length c, .func (.func 27) #[] #[]] w fun e w' => e = .returned (.bool (l.any longH)) ∧ Ext w w' := by
  have hi := indexH_any w A c l hS hc hn ho
  rw [← firstI_any longH l 0]
  generalize firstI longH l 0 = v at *
  generalize l.length = n at *
  clear hS ho
  go_enter Tryd.func30, Tryd.ntmps30
  go_wp2_with (go_at_call 58; (with_reducible refine hi.mono ?_); rintro e w1 ⟨rfl, hE1⟩)
  go_ret
  exact ⟨rfl, hE1⟩
set_option maxHeartbeats 1000000 in
set_option maxRecDepth 100000 in
theorem indexE_any (w : World) (A : Option Addr) (c : Nat) (l : List Ent) (hS : rdEn.Sl w A l.length l) (hc : l.length ≤ c) (hn : l.length ≤ 1000000) (ho : ∀ x ∈ l, ∀ (w' : World) (C : List Value), rdEn.K w' x C → Calls Tryd.prog 29 #[.agg C.toArray] w' fun e w'' => e = .returned (.bool (longE x)) ∧ Ext w' w'') :
    Calls Tryd.prog 59 #[.slice A l.length c, .func (.func 29) #[] #[]] w fun e w' => e = .returned (.int .i64 (firstI longE l 0)) ∧ Ext w w' := by
  obtain ⟨v, hv⟩ : ∃ v, firstI longE l 0 = v := ⟨_, rfl⟩
  rw [hv]
  obtain ⟨n, hln⟩ : ∃ n, l.length = n := ⟨_, rfl⟩
  rw [hln] at hS hc hn ⊢
  go_enter Tryd.func59, Tryd.ntmps59
  go_wp2_with fail
  go_loopw [8] (fun i wr => ∃ k : Nat, k ≤ n ∧ i = .int .i64 k ∧ (∀ x ∈ l.take k, longE x = false) ∧ Ext w wr) (fun i _ => n - (intOf i).toNat)
  case atStart => exact ⟨0, by omega, rfl, by simp, Ext.refl _⟩
  case round =>
    obtain ⟨k, hkn, rfl, hd, hwr⟩ := hrel
    by_cases hlt : k < n
    · obtain ⟨b, o, rfl⟩ := el_addr hS k hlt
      obtain ⟨x, hx⟩ : ∃ x, l[k]? = some x := ⟨_, List.getElem?_eq_getElem (by omega)⟩
      obtain ⟨hkl, hxe⟩ := List.getElem?_eq_some_iff.1 hx
      obtain ⟨cs, hK, rx⟩ := el_loadK (hS.ext hwr) k x hx 72 _ Tryd.underlying72 rfl (by kernel_rfl)
      simp only [show rdEn.sz = 39 from rfl] at rx
      have hres : longE x = true → v = (k : Int) := fun h => by rw [← hv, firstI_at longE l 0 k hkl hd (by rw [hxe]; exact h), Nat.zero_add]
      have htk : l.take (k + 1) = l.take k ++ [x] := by rw [List.take_succ_eq_append_getElem hkl, hxe]
      have ho1 := fun (w' : World) (e : Ext wr w') => ho x (by rw [← hxe]; exact List.getElem_mem hkl) w' cs (rdEn.mono e.cle hK)
      obtain ⟨b9, hb⟩ : ∃ b, longE x = b := ⟨_, rfl⟩
      rw [hb] at ho1 hres
      have hY : Ext wr wr := Ext.refl wr
      generalize cs.toArray = C at rx ho1
      clear hS hx hK hxe ho
      cases b9
      · have hrel : ∀ y ∈ l.take (k + 1), longE y = false := by
          rw [htk]
          intro y hy
          rcases List.mem_append.1 hy with hy | hy
          · exact hd y hy
          · obtain rfl : y = x := by simpa using hy
            exact hb
        clear hres hd htk
        go_wp2_with (first | (refine wpList_load_by rfl rfl ?_ (rx _ (by (repeat (first | assumption | exact Ext.refl _ | refine Ext.set ?_ (Nat.le_refl _) _ | refine Ext.drew ?_ | refine Ext.alloc ?_ _ | refine Ext.drewN ?_ _ | refine Ext.trans ?_ (by assumption))))) ?_; (· rfl)) | (go_at_call 29; (with_reducible refine (ho1 _ (by (repeat (first | assumption | exact Ext.refl _ | refine Ext.set ?_ (Nat.le_refl _) _ | refine Ext.drew ?_ | refine Ext.alloc ?_ _ | refine Ext.drewN ?_ _ | refine Ext.trans ?_ (by assumption))))).mono ?_); rintro e w1 ⟨rfl, hE1⟩))
        go_roundw
        case rel => exact ⟨k + 1, by omega, by go_num, hrel, hwr.trans hE1⟩
        case measure => simp [intOf]; omega
      · obtain rfl := hres rfl
        clear hd htk hv
        go_wp2_with (first | (refine wpList_load_by rfl rfl ?_ (rx _ (by (repeat (first | assumption | exact Ext.refl _ | refine Ext.set ?_ (Nat.le_refl _) _ | refine Ext.drew ?_ | refine Ext.alloc ?_ _ | refine Ext.drewN ?_ _ | refine Ext.trans ?_ (by assumption))))) ?_; (· rfl)) | (go_at_call 29; (with_reducible refine (ho1 _ (by (repeat (first | assumption | exact Ext.refl _ | refine Ext.set ?_ (Nat.le_refl _) _ | refine Ext.drew ?_ | refine Ext.alloc ?_ _ | refine Ext.drewN ?_ _ | refine Ext.trans ?_ (by assumption))))).mono ?_); rintro e w1 ⟨rfl, hE1⟩))
        go_ret
        exact ⟨rfl, hwr.trans hE1⟩
    · obtain rfl : k = n := by omega
      rw [← hln, List.take_length] at hd
      have hv2 := firstI_no longE l 0 hd
      rw [hv] at hv2
      go_wp2_with fail
      go_ret
      exact ⟨ret_int hv2.symm, hwr⟩
set_option maxHeartbeats 1000000 in
set_option maxRecDepth 100000 in
theorem containsE_any (w : World) (A : Option Addr) (c : Nat) (l : List Ent) (hS : rdEn.Sl w A l.length l) (hc : l.length ≤ c) (hn : l.length ≤ 1000000) (ho : ∀ x ∈ l, ∀ (w' : World) (C : List Value), rdEn.K w' x C → Calls Tryd.prog 29 #[.agg C.toArray] w' fun e w'' => e = .returned (.bool (longE x)) ∧ Ext w' w'') :
    Calls Tryd.prog 31 #[.slice A l.length c, .func (.func 29) #[] #[]] w fun e w' => e = .returned (.bool (l.any longE)) ∧ Ext w w' := by
  have hi := indexE_any w A c l hS hc hn ho
  rw [← firstI_any longE l 0]
  generalize firstI longE l 0 = v at *
  generalize l.length = n at *
  clear hS ho
  go_enter Tryd.func31, Tryd.ntmps31
  go_wp2_with (go_at_call 59; (with_reducible refine hi.mono ?_); rintro e w1 ⟨rfl, hE1⟩)
  go_ret
  exact ⟨rfl, hE1⟩
set_option maxHeartbeats 1000000 in
set_option maxRecDepth 100000 in
theorem longH_any (w : World) (x : Shn) (A : Option Addr) (c : Nat) (hm : x.body.length ≤ 9223372036854775807) : Calls Tryd.prog 27 #[.agg (shA x (.slice A x.body.length c))] w fun e w' => e = .returned (.bool (longH x)) ∧ Ext w w' := by
  have h1 := longest_any x.st
  have h2 := longest_any x.su
  obtain ⟨v3, hv3⟩ : ∃ v, decide ((256 : Int) < (x.body.length : Int)) = v := ⟨_, rfl⟩
  have hv : longB x.body = v3 := by rw [← hv3]; unfold longB; apply decide_eq_decide.2; omega
  have e0 : longH x = (longS x.st || (longS x.su || v3)) := by unfold longH; rw [hv]
  rw [e0]
  obtain ⟨W, hW, hE, bx⟩ := box1 w (shA x (.slice A x.body.length c)) 68
  have x0 : W.cell? ⟨w.heap.size, 0, none⟩ = some (.string x.st) := bx 0 _ rfl
  have x1 : W.cell? ⟨w.heap.size, 1, none⟩ = some (.string x.su) := bx 1 _ rfl
  have x5 : W.cell? ⟨w.heap.size, 5, none⟩ = some (.slice A x.body.length c) := bx 5 _ rfl
  generalize shA x (.slice A x.body.length c) = C at *
  generalize longS x.st = v1 at *
  generalize longS x.su = v2 at *
  generalize x.body.length = n at *
  clear bx hv e0
  have hE2 := hE
  go_enter Tryd.func27, Tryd.ntmps27
  go_upto_region 1 with fail
  rw [← hW]
  clear hW
  cases v1
  · cases v2
    · cases v3 <;>
      · go_wp2_with (go_at_call 28; (first | (with_reducible refine (h1 _).mono ?_) | (with_reducible refine (h2 _).mono ?_)); rintro e w1 ⟨rfl, rfl⟩)
        go_ret
        exact ⟨ret_bool (by simp [hv3]), hE⟩
    · go_wp2_with (go_at_call 28; (first | (with_reducible refine (h1 _).mono ?_) | (with_reducible refine (h2 _).mono ?_)); rintro e w1 ⟨rfl, rfl⟩)
      go_ret
      exact ⟨ret_bool (by simp), hE⟩
  · go_wp2_with (go_at_call 28; (with_reducible refine (h1 _).mono ?_); rintro e w1 ⟨rfl, rfl⟩)
    go_ret
    exact ⟨ret_bool (by simp), hE⟩
set_option maxHeartbeats 1000000 in
set_option maxRecDepth 100000 in
theorem longE_any (w : World) (x : Ent) : Calls Tryd.prog 29 #[.agg (enA x)] w fun e w' => e = .returned (.bool (longE x)) ∧ Ext w w' := by
  have h1 := longest_any x.st
  have h2 := longest_any x.su
  unfold longE
  obtain ⟨W, hW, hE, bx⟩ := box1 w (enA x) 72
  have x0 : W.cell? ⟨w.heap.size, 5, none⟩ = some (.string x.st) := bx 5 _ rfl
  have x1 : W.cell? ⟨w.heap.size, 6, none⟩ = some (.string x.su) := bx 6 _ rfl
  generalize enA x = C at *
  generalize longS x.st = v1 at *
  generalize longS x.su = v2 at *
  clear bx
  go_enter Tryd.func29, Tryd.ntmps29
  go_upto_region 1 with fail
  rw [← hW]
  clear hW
  cases v1
  · go_wp2_with (go_at_call 28; (first | (with_reducible refine (h1 _).mono ?_) | (with_reducible refine (h2 _).mono ?_)); rintro e w1 ⟨rfl, rfl⟩)
    go_ret
    exact ⟨ret_bool (by simp), hE⟩
  · go_wp2_with (go_at_call 28; (with_reducible refine (h1 _).mono ?_); rintro e w1 ⟨rfl, rfl⟩)
    go_ret
    exact ⟨ret_bool (by simp), hE⟩
structure AnsLen (x : Ans) : Prop where
  n : x.tok.gs.length ≤ 1000000
  p : ∀ g ∈ x.tok.gs, g.p.size ≤ 9223372036854775807
  h : x.shown.length ≤ 1000000
  b : ∀ y ∈ x.shown, y.body.length ≤ 9223372036854775807
  e : x.ents.length ≤ 1000000
theorem ansG_eq (x : Ans) : ansG x = if (decide (64 < x.shown.length) || (decide (64 < x.ents.length) || decide (6 < x.tok.gs.length))) = true then 3 else if (longT x.tok || (x.shown.any longH || x.ents.any longE)) = true then 5 else 0 := by
  unfold ansG
  simp only [Bool.or_eq_true, decide_eq_true_eq]
set_option maxHeartbeats 9000000 in
set_option maxRecDepth 100000 in
theorem ansCheck_any (w : World) (x : Ans) (s a e : Value) (hH : HsV w x.shown s) (hG : GsV w x.tok.gs a) (hN : EsV w x.ents e) (hl : AnsLen x) :
    Calls Tryd.prog 10 #[.agg (ansA x s a e)] w fun e' w' => e' = .returned (.int .i64 (ansG x)) ∧ Ext w w' := by
  have hlT := fun (w' : World) (h : Ext w w') => longT_any w' x.tok a (hG.ext h) hl.n hl.p
  obtain ⟨A, ca, rfl, hca, -⟩ := id hG
  obtain ⟨B, cb, rfl, hcb, hSH⟩ := id hH
  obtain ⟨D, cd, rfl, hcd, hSE⟩ := id hN
  have hlH := fun (w' : World) (h : Ext w w') => containsH_any w' B cb x.shown (hSH.ext h) hcb hl.h (fun y hy w2 C hK => by
    obtain ⟨b, rfl, A2, c2, rfl, -, -⟩ := sh_cells hK
    exact longH_any w2 y A2 c2 (hl.b y hy))
  have hlE := fun (w' : World) (h : Ext w w') => containsE_any w' D cd x.ents (hSE.ext h) hcd hl.e (fun y hy w2 C hK => by
    obtain rfl := en_cells hK
    exact longE_any w2 y)
  rw [ansG_eq]
  obtain ⟨b1, g1⟩ : ∃ b, decide ((64 : Int) < (x.shown.length : Int)) = b := ⟨_, rfl⟩
  have n1 : decide (64 < x.shown.length) = b1 := by rw [← g1]; apply decide_eq_decide.2; omega
  obtain ⟨b2, g2⟩ : ∃ b, decide ((64 : Int) < (x.ents.length : Int)) = b := ⟨_, rfl⟩
  have n2 : decide (64 < x.ents.length) = b2 := by rw [← g2]; apply decide_eq_decide.2; omega
  obtain ⟨b3, g3⟩ : ∃ b, decide ((6 : Int) < (x.tok.gs.length : Int)) = b := ⟨_, rfl⟩
  have n3 : decide (6 < x.tok.gs.length) = b3 := by rw [← g3]; apply decide_eq_decide.2; omega
  rw [n1, n2, n3]
  obtain ⟨W, hW, hE, bx⟩ := box1 w (ansA x (.slice B x.shown.length cb) (.slice A x.tok.gs.length ca) (.slice D x.ents.length cd)) 45
  have B1 : Blk W w.heap.size 45 (ansA x (.slice B x.shown.length cb) (.slice A x.tok.gs.length ca) (.slice D x.ents.length cd)) := by rw [hW]; exact Blk.new _ _ _
  have x2 : W.cell? ⟨w.heap.size, 2, none⟩ = some (.slice B x.shown.length cb) := bx 2 _ rfl
  have x5 : W.cell? ⟨w.heap.size, 5, none⟩ = some (.slice A x.tok.gs.length ca) := bx 5 _ rfl
  have x38 : W.cell? ⟨w.heap.size, 38, none⟩ = some (.slice D x.ents.length cd) := bx 38 _ rfl
  have k2 := fun (w' : World) (h : Ext W w') => h.cellk x2
  have k38 := fun (w' : World) (h : Ext W w') => h.cellk x38
  have lt := load_part B1 3 (tokA x.tok (.slice A x.tok.gs.length ca)) [.int .i64 x.code, .int .i64 x.num, .slice B x.shown.length cb] [.slice D x.ents.length cd] rfl rfl 27 _ Tryd.underlying27 rfl (by kernel_rfl)
  generalize ansA x (.slice B x.shown.length cb) (.slice A x.tok.gs.length ca) (.slice D x.ents.length cd) = C at *
  generalize tokA x.tok (.slice A x.tok.gs.length ca) = C2 at *
  generalize longT x.tok = t1 at *
  generalize x.shown.any longH = t2 at *
  generalize x.ents.any longE = t3 at *
  generalize x.shown.length = m1 at *
  generalize x.ents.length = m2 at *
  generalize x.tok.gs.length = m3 at *
  clear bx hSH hSE hH hG hN hl B1 n1 n2 n3
  go_enter Tryd.func10, Tryd.ntmps10
  go_upto_region 1 with fail
  rw [← hW]
  clear hW
  cases b1
  · cases b2
    · cases b3
      · cases t1
        · cases t2
          · cases t3
            · go_wp2_with (first | (refine wpList_load_by rfl rfl ?_ lt ?_; (· rfl)) | (go_at_call 21; (with_reducible refine (hlT _ hE).mono ?_); rintro e w1 ⟨rfl, hE1⟩; have k2a := k2 _ hE1) | (go_at_call 30; (with_reducible refine (hlH _ (hE.trans hE1)).mono ?_); rintro e w2 ⟨rfl, hE2⟩; have hE12 := hE1.trans hE2; have k38a := k38 _ hE12) | (go_at_call 31; (with_reducible refine (hlE _ (hE.trans hE12)).mono ?_); rintro e w3 ⟨rfl, hE3⟩))
              go_ret
              exact ⟨rfl, (hE.trans hE12).trans hE3⟩
            · go_wp2_with (first | (refine wpList_load_by rfl rfl ?_ lt ?_; (· rfl)) | (go_at_call 21; (with_reducible refine (hlT _ hE).mono ?_); rintro e w1 ⟨rfl, hE1⟩; have k2a := k2 _ hE1) | (go_at_call 30; (with_reducible refine (hlH _ (hE.trans hE1)).mono ?_); rintro e w2 ⟨rfl, hE2⟩; have hE12 := hE1.trans hE2; have k38a := k38 _ hE12) | (go_at_call 31; (with_reducible refine (hlE _ (hE.trans hE12)).mono ?_); rintro e w3 ⟨rfl, hE3⟩))
              go_ret
              exact ⟨rfl, (hE.trans hE12).trans hE3⟩
          · go_wp2_with (first | (refine wpList_load_by rfl rfl ?_ lt ?_; (· rfl)) | (go_at_call 21; (with_reducible refine (hlT _ hE).mono ?_); rintro e w1 ⟨rfl, hE1⟩; have k2a := k2 _ hE1) | (go_at_call 30; (with_reducible refine (hlH _ (hE.trans hE1)).mono ?_); rintro e w2 ⟨rfl, hE2⟩; have hE12 := hE1.trans hE2; have k38a := k38 _ hE12) | (go_at_call 31; (with_reducible refine (hlE _ (hE.trans hE12)).mono ?_); rintro e w3 ⟨rfl, hE3⟩))
            go_ret
            exact ⟨rfl, hE.trans hE12⟩
        · go_wp2_with (first | (refine wpList_load_by rfl rfl ?_ lt ?_; (· rfl)) | (go_at_call 21; (with_reducible refine (hlT _ hE).mono ?_); rintro e w1 ⟨rfl, hE1⟩; have k2a := k2 _ hE1) | (go_at_call 30; (with_reducible refine (hlH _ (hE.trans hE1)).mono ?_); rintro e w2 ⟨rfl, hE2⟩; have hE12 := hE1.trans hE2; have k38a := k38 _ hE12) | (go_at_call 31; (with_reducible refine (hlE _ (hE.trans hE12)).mono ?_); rintro e w3 ⟨rfl, hE3⟩))
          go_ret
          exact ⟨rfl, hE.trans hE1⟩
      · go_wp2_with fail
        go_ret
        exact ⟨rfl, hE⟩
    · go_wp2_with fail
      go_ret
      exact ⟨rfl, hE⟩
  · go_wp2_with fail
    go_ret
    exact ⟨rfl, hE⟩
end Go.Proofs.YtgfhbachgniipaaDoor

namespace Go.Proofs.YtgfhbachgniipaaDoor
open Go.RowKit
def Buf (N : Nat) (w : World) (v : Value) (L : List UInt8) : Prop := ∃ A c, v = .slice A L.length c ∧ L.length ≤ c ∧ Rd.u8.Sl w A L.length L ∧ L.length ≤ N
theorem OwnN.buf {B N : Nat} {w : World} {v : Value} {L : List UInt8} (h : OwnN B N w v L) : Buf N w v L := by
  obtain ⟨A, c, e, h1, h2⟩ := h.1.sl
  exact ⟨A, c, e, h1, h2, h.2.1⟩
theorem Buf.nil (w : World) : Buf 0 w (.slice none 0 0) [] := ⟨none, 0, rfl, Nat.le_refl _, Rd.Sl.none _ _ none, Nat.le_refl _⟩
theorem Buf.ext {N : Nat} {w w' : World} {v : Value} {L : List UInt8} (h : Buf N w v L) (hE : Ext w w') : Buf N w' v L := by
  obtain ⟨A, c, e, h1, h2, h3⟩ := h
  exact ⟨A, c, e, h1, h2.ext hE, h3⟩
theorem OwnN.wide {B N N' : Nat} {w : World} {v : Value} {L : List UInt8} (h : OwnN B N w v L) (hN : N ≤ N') : OwnN B N' w v L := ⟨h.1, Nat.le_trans h.2.1 hN, h.2.2⟩
theorem OwnN.mk' {B N : Nat} {w w' : World} {u : Value} {L : List UInt8} {m : Nat} (hu : w'.ownsRow w.heap.size 5 1 u m (L.flatMap encB)) (hm : L.length = m) (hN : L.length ≤ N) (hB : B ≤ w.heap.size) (hE : Ext w w') : OwnN B N w' u L := by
  subst hm
  exact ⟨own_base hu hB, hN, Nat.le_trans hB hE.le⟩
section
variable {N : Nat} {w : World} {v : Value} {L : List UInt8} (h : Buf N w v L) (hN : N ≤ 1000000000) (B : Nat) (hB : B ≤ w.heap.size)
include h hN hB
theorem intL (x : Int) (hx : intOk x) : Calls Tryd.prog 63 #[v, .int .i64 x] w fun e w' => ∃ u, e = .returned u ∧ OwnN B (N + 8) w' u (L ++ num8 x) ∧ Ext w w' := by
  obtain ⟨A, c, rfl, h1, h2, h3⟩ := h
  refine (packInt_any w A c L h2 h1 (by omega) x hx).mono ?_
  rintro e w' ⟨u, rfl, hu, hE⟩
  exact ⟨u, rfl, OwnN.mk' hu (by rw [List.length_append, num8_len]) (by rw [List.length_append, num8_len]; omega) hB hE, hE⟩
theorem textL (s : ByteArray) (hs : s.size ≤ 1048576) : Calls Tryd.prog 60 #[v, .string s] w fun e w' => ∃ u, e = .returned u ∧ OwnN B (N + 1048584) w' u (L ++ txtB s) ∧ Ext w w' := by
  obtain ⟨A, c, rfl, h1, h2, h3⟩ := h
  refine (packText_any w A c L h2 h1 (by omega) s (by omega)).mono ?_
  rintro e w' ⟨u, rfl, hu, hE⟩
  have e1 : s.data.toList.length = s.size := by rw [Array.length_toList]; rfl
  rw [List.append_assoc] at hu
  exact ⟨u, rfl, OwnN.mk' (L := L ++ txtB s) hu (by rw [List.length_append, txtB_len]; omega) (by rw [List.length_append, txtB_len]; omega) hB hE, hE⟩
theorem blobL (A' : Option Addr) (c' : Nat) (p : List UInt8) (hS : Rd.u8.Sl w A' p.length p) (hc : p.length ≤ c') (hp : p.length ≤ 1048576) :
    Calls Tryd.prog 36 #[v, .slice A' p.length c'] w fun e w' => ∃ u, e = .returned u ∧ OwnN B (N + 1048584) w' u (L ++ blobB p) ∧ Ext w w' := by
  obtain ⟨A, c, rfl, h1, h2, h3⟩ := h
  refine (packBlob_any w A c L h2 h1 (by omega) A' c' p hS hc (by omega)).mono ?_
  rintro e w' ⟨u, rfl, hu, hE⟩
  rw [List.append_assoc] at hu
  exact ⟨u, rfl, OwnN.mk' (L := L ++ blobB p) hu (by unfold blobB; rw [List.length_append, List.length_append, num8_len]; omega) (by unfold blobB; rw [List.length_append, List.length_append, num8_len]; omega) hB hE, hE⟩
end
theorem macA_sl {w : World} {g : Nat} {T : TypeId} {m : List UInt8} (B : Blk w g T (macA m)) (hm : m.length = 32) : Rd.u8.Sl w (some ⟨g, 0, none⟩) 32 m := by
  refine ⟨hm, fun _ => ⟨g, 0, rfl, fun i hi => ⟨[_], rfl, fun j u hu => ?_⟩⟩⟩
  have h4 := macA_at m i (by omega)
  obtain ⟨rfl, rfl⟩ : j = 0 ∧ _ = u := by
    cases j with
    | zero => simp at hu; exact ⟨rfl, hu⟩
    | succ j => simp at hu
  have := B.cell i h4
  unfold mb at this
  rw [List.getD_eq_getElem?_getD, List.getElem?_eq_getElem (by omega)] at this
  simpa [Rd.u8] using this
set_option maxHeartbeats 1000000 in
set_option maxRecDepth 100000 in
theorem sumL {N : Nat} {w : World} {v : Value} {L : List UInt8} (h : Buf N w v L) (hN : N ≤ 1000000000) (B : Nat) (hB : B ≤ w.heap.size) (m : List UInt8) (hm : m.length = 32) :
    Calls Tryd.prog 56 #[v, .agg (macA m)] w fun e w' => ∃ u, e = .returned u ∧ OwnN B (N + 32) w' u (L ++ m) ∧ Ext w w' := by
  obtain ⟨A, c, rfl, h1, h2, h3⟩ := h
  obtain ⟨W, hW, hE, -⟩ := box1 w (macA m) 25
  have B1 : Blk W w.heap.size 25 (macA m) := by rw [hW]; exact Blk.new _ _ _
  have hla := laidB_any W A c L (h2.ext hE) h1 (by omega) (some ⟨w.heap.size, 0, none⟩) 32 m (by rw [hm]; exact macA_sl B1 hm) (by omega) (by omega)
  rw [hm] at hla
  generalize macA m = M at *
  obtain ⟨n, hln⟩ : ∃ n, L.length = n := ⟨_, rfl⟩
  rw [hln] at hla h1 h3 ⊢
  have HL := Lib.hid hln
  clear h2 B1 hln
  go_enter Tryd.func56, Tryd.ntmps56
  go_upto_region 1 with fail
  rw [← hW]
  clear hW
  go_wp2_with (go_at_call 64; (with_reducible refine hla.mono ?_); rintro e w1 ⟨u, rfl, hu, hE1⟩)
  go_ret
  exact ⟨u, rfl, OwnN.mk' (w := W) hu (by rw [List.length_append, hm, HL.out]) (by rw [List.length_append, hm, HL.out]; omega) (Nat.le_trans hB hE.le) hE1, hE.trans hE1⟩
set_option maxHeartbeats 1000000 in
set_option maxRecDepth 100000 in
theorem tintsL {N : Nat} {w : World} {v : Value} {L : List UInt8} (h : Buf N w v L) (B : Nat) (hB : B ≤ w.heap.size) (A : Option Addr) (c : Nat) (xs : List Int) (hS : (Rd.int .i64).Sl w A xs.length xs) (hc : xs.length ≤ c) (h0 : 0 < xs.length) (hn : xs.length ≤ 100) (hx : ∀ x ∈ xs, intOk x) (hN : N ≤ 900000000) :
    Calls Tryd.prog 61 #[v, .slice A xs.length c] w fun e w' => ∃ u, e = .returned u ∧ OwnN B (N + 8 * xs.length) w' u (L ++ numsB xs) ∧ Ext w w' := by
  obtain ⟨n, hln⟩ : ∃ n, xs.length = n := ⟨_, rfl⟩
  rw [hln] at hS hc h0 hn ⊢
  have HL := Lib.hid hln
  clear hln
  go_enter Tryd.func61, Tryd.ntmps61
  go_wp2_with fail
  go_loopw [0, 9] (fun s i wr => ∃ k : Nat, k ≤ n ∧ i = .int .i64 k ∧ Buf (N + 8 * k) wr s (L ++ numsB (xs.take k)) ∧ (0 < k → OwnN B (N + 8 * k) wr s (L ++ numsB (xs.take k))) ∧ Ext w wr) (fun _ i _ => n - (intOf i).toNat)
  case atStart => exact ⟨0, by omega, rfl, by simpa [numsB] using h, (fun h => absurd h (Nat.lt_irrefl 0)), Ext.refl _⟩
  case round =>
    obtain ⟨k, hkn, rfl, hb, ho, hwr⟩ := hrel
    by_cases hlt : k < n
    · obtain ⟨b, o, cs, rfl, hK, hcell⟩ := hS.get k hlt
      have hl := HL.out
      have hone := numsB_one xs k (by omega)
      have hxk := hx _ (List.getElem_mem (l := xs) (n := k) (by omega))
      generalize xs[k]'(by omega) = x at *
      have x0 : wr.cell? ⟨b, o + k, none⟩ = some (.int .i64 x) := hwr.cellk (by have := hcell 0 _ (by rw [show cs = [_] from hK]; rfl); simpa [Rd.int] using this)
      have hi := intL hb (by omega) B (Nat.le_trans hB hwr.le) x hxk
      rw [List.append_assoc, ← hone] at hi
      have hi := hi.mono (R' := fun e w' => ∃ u, e = .returned u ∧ OwnN B (N + 8 * (k + 1)) w' u (L ++ numsB (xs.take (k + 1))) ∧ Ext wr w') (by rintro e w' ⟨u, rfl, h1, h2⟩; exact ⟨u, rfl, h1.wide (by omega), h2⟩)
      clear hS hK hcell hone hxk ho hl
      go_wp2_with (go_at_call 63; (with_reducible refine hi.mono ?_); rintro e w9 ⟨v9, rfl, hO9, hE9⟩)
      go_roundw
      case rel => first | exact ⟨k + 1, by omega, by go_num, hO9.buf, (fun _ => hO9), hwr.trans hE9⟩ | ((repeat apply Exists.intro); exact ⟨⟨k + 1, by omega, by go_num, hO9.buf, (fun _ => hO9), hwr.trans hE9⟩, rfl⟩)
      case measure => simp [intOf]; omega
    · obtain rfl : k = n := by omega
      have ho := ho h0
      rw [← HL.out, List.take_length, HL.out] at ho
      clear hS hb
      go_wp2_with fail
      go_ret
      exact ⟨_, rfl, ho, hwr⟩
set_option maxHeartbeats 1000000 in
set_option maxRecDepth 100000 in
theorem cintsL {N : Nat} {w : World} {v : Value} {L : List UInt8} (h : Buf N w v L) (B : Nat) (hB : B ≤ w.heap.size) (A : Option Addr) (c : Nat) (xs : List Int) (hS : (Rd.int .i64).Sl w A xs.length xs) (hc : xs.length ≤ c) (h0 : 0 < xs.length) (hn : xs.length ≤ 100) (hx : ∀ x ∈ xs, intOk x) (hN : N ≤ 900000000) :
    Calls Tryd.prog 34 #[v, .slice A xs.length c] w fun e w' => ∃ u, e = .returned u ∧ OwnN B (N + 8 * xs.length) w' u (L ++ numsB xs) ∧ Ext w w' := by
  obtain ⟨n, hln⟩ : ∃ n, xs.length = n := ⟨_, rfl⟩
  rw [hln] at hS hc h0 hn ⊢
  have HL := Lib.hid hln
  clear hln
  go_enter Tryd.func34, Tryd.ntmps34
  go_wp2_with fail
  go_loopw [0, 9] (fun s i wr => ∃ k : Nat, k ≤ n ∧ i = .int .i64 k ∧ Buf (N + 8 * k) wr s (L ++ numsB (xs.take k)) ∧ (0 < k → OwnN B (N + 8 * k) wr s (L ++ numsB (xs.take k))) ∧ Ext w wr) (fun _ i _ => n - (intOf i).toNat)
  case atStart => exact ⟨0, by omega, rfl, by simpa [numsB] using h, (fun h => absurd h (Nat.lt_irrefl 0)), Ext.refl _⟩
  case round =>
    obtain ⟨k, hkn, rfl, hb, ho, hwr⟩ := hrel
    by_cases hlt : k < n
    · obtain ⟨b, o, cs, rfl, hK, hcell⟩ := hS.get k hlt
      have hl := HL.out
      have hone := numsB_one xs k (by omega)
      have hxk := hx _ (List.getElem_mem (l := xs) (n := k) (by omega))
      generalize xs[k]'(by omega) = x at *
      have x0 : wr.cell? ⟨b, o + k, none⟩ = some (.int .i64 x) := hwr.cellk (by have := hcell 0 _ (by rw [show cs = [_] from hK]; rfl); simpa [Rd.int] using this)
      have hi := intL hb (by omega) B (Nat.le_trans hB hwr.le) x hxk
      rw [List.append_assoc, ← hone] at hi
      have hi := hi.mono (R' := fun e w' => ∃ u, e = .returned u ∧ OwnN B (N + 8 * (k + 1)) w' u (L ++ numsB (xs.take (k + 1))) ∧ Ext wr w') (by rintro e w' ⟨u, rfl, h1, h2⟩; exact ⟨u, rfl, h1.wide (by omega), h2⟩)
      clear hS hK hcell hone hxk ho hl
      go_wp2_with (go_at_call 63; (with_reducible refine hi.mono ?_); rintro e w9 ⟨v9, rfl, hO9, hE9⟩)
      go_roundw
      case rel => first | exact ⟨k + 1, by omega, by go_num, hO9.buf, (fun _ => hO9), hwr.trans hE9⟩ | ((repeat apply Exists.intro); exact ⟨⟨k + 1, by omega, by go_num, hO9.buf, (fun _ => hO9), hwr.trans hE9⟩, rfl⟩)
      case measure => simp [intOf]; omega
    · obtain rfl : k = n := by omega
      have ho := ho h0
      rw [← HL.out, List.take_length, HL.out] at ho
      clear hS hb
      go_wp2_with fail
      go_ret
      exact ⟨_, rfl, ho, hwr⟩
def txtsB (l : List ByteArray) : List UInt8 := l.flatMap txtB
theorem txtsB_one (l : List ByteArray) (k : Nat) (h : k < l.length) : txtsB (l.take (k + 1)) = txtsB (l.take k) ++ txtB l[k] := by
  unfold txtsB
  rw [List.take_succ_eq_append_getElem h, List.flatMap_append]
  simp
set_option maxHeartbeats 1000000 in
set_option maxRecDepth 100000 in
theorem ctextsL {N : Nat} {w : World} {v : Value} {L : List UInt8} (h : Buf N w v L) (B : Nat) (hB : B ≤ w.heap.size) (A : Option Addr) (c : Nat) (xs : List ByteArray) (hS : Rd.str.Sl w A xs.length xs) (hc : xs.length ≤ c) (h0 : 0 < xs.length) (hn : xs.length ≤ 10) (hx : ∀ x ∈ xs, x.size ≤ 1048576) (hN : N ≤ 900000000) :
    Calls Tryd.prog 32 #[v, .slice A xs.length c] w fun e w' => ∃ u, e = .returned u ∧ OwnN B (N + 1048584 * xs.length) w' u (L ++ txtsB xs) ∧ Ext w w' := by
  obtain ⟨n, hln⟩ : ∃ n, xs.length = n := ⟨_, rfl⟩
  rw [hln] at hS hc h0 hn ⊢
  have HL := Lib.hid hln
  clear hln
  go_enter Tryd.func32, Tryd.ntmps32
  go_wp2_with fail
  go_loopw [0, 9] (fun s i wr => ∃ k : Nat, k ≤ n ∧ i = .int .i64 k ∧ Buf (N + 1048584 * k) wr s (L ++ txtsB (xs.take k)) ∧ (0 < k → OwnN B (N + 1048584 * k) wr s (L ++ txtsB (xs.take k))) ∧ Ext w wr) (fun _ i _ => n - (intOf i).toNat)
  case atStart => exact ⟨0, by omega, rfl, by simpa [txtsB] using h, (fun h => absurd h (Nat.lt_irrefl 0)), Ext.refl _⟩
  case round =>
    obtain ⟨k, hkn, rfl, hb, ho, hwr⟩ := hrel
    by_cases hlt : k < n
    · obtain ⟨b, o, cs, rfl, hK, hcell⟩ := hS.get k hlt
      have hl := HL.out
      have hone := txtsB_one xs k (by omega)
      have hxk := hx _ (List.getElem_mem (l := xs) (n := k) (by omega))
      generalize xs[k]'(by omega) = x at *
      have x0 : wr.cell? ⟨b, o + k, none⟩ = some (.string x) := hwr.cellk (by have := hcell 0 _ (by rw [show cs = [_] from hK]; rfl); simpa [Rd.str] using this)
      have hi := textL hb (by omega) B (Nat.le_trans hB hwr.le) x hxk
      rw [List.append_assoc, ← hone] at hi
      have hi := hi.mono (R' := fun e w' => ∃ u, e = .returned u ∧ OwnN B (N + 1048584 * (k + 1)) w' u (L ++ txtsB (xs.take (k + 1))) ∧ Ext wr w') (by rintro e w' ⟨u, rfl, h1, h2⟩; exact ⟨u, rfl, h1.wide (by omega), h2⟩)
      clear hS hK hcell hone hxk ho hl
      go_wp2_with (go_at_call 60; (with_reducible refine hi.mono ?_); rintro e w9 ⟨v9, rfl, hO9, hE9⟩)
      go_roundw
      case rel => first | exact ⟨k + 1, by omega, by go_num, hO9.buf, (fun _ => hO9), hwr.trans hE9⟩ | ((repeat apply Exists.intro); exact ⟨⟨k + 1, by omega, by go_num, hO9.buf, (fun _ => hO9), hwr.trans hE9⟩, rfl⟩)
      case measure => simp [intOf]; omega
    · obtain rfl : k = n := by omega
      have ho := ho h0
      rw [← HL.out, List.take_length, HL.out] at ho
      clear hS hb
      go_wp2_with fail
      go_ret
      exact ⟨_, rfl, ho, hwr⟩
end Go.Proofs.YtgfhbachgniipaaDoor

namespace Go.Proofs.YtgfhbachgniipaaDoor
open Go.RowKit
theorem ints_sl {w : World} {g : Nat} (xs : List Int) (b : Blk w g 3 (xs.map (Value.int .i64)).toArray) : (Rd.int .i64).Sl w (some ⟨g, 0, none⟩) xs.length xs := by
  refine ⟨rfl, fun _ => ⟨g, 0, rfl, fun i hi => ⟨[_], rfl, fun j u hu => ?_⟩⟩⟩
  obtain ⟨rfl, rfl⟩ : j = 0 ∧ _ = u := by
    cases j with
    | zero => simp at hu; exact ⟨rfl, hu⟩
    | succ j => simp at hu
  have := b.cell i (v := .int .i64 xs[i]) (by simp [hi])
  simpa [Rd.int] using this
theorem txts_sl {w : World} {g : Nat} (xs : List ByteArray) (b : Blk w g 9 (xs.map Value.string).toArray) : Rd.str.Sl w (some ⟨g, 0, none⟩) xs.length xs := by
  refine ⟨rfl, fun _ => ⟨g, 0, rfl, fun i hi => ⟨[_], rfl, fun j u hu => ?_⟩⟩⟩
  obtain ⟨rfl, rfl⟩ : j = 0 ∧ _ = u := by
    cases j with
    | zero => simp at hu; exact ⟨rfl, hu⟩
    | succ j => simp at hu
  have := b.cell i (v := .string xs[i]) (by simp [hi])
  simpa [Rd.str] using this
section
variable {N : Nat} {w : World} {v : Value} {L : List UInt8} {g : Nat} (h : Buf N w v L) (B : Nat) (hB : B ≤ w.heap.size) (hN : N ≤ 900000000)
include h hB hN
theorem tints1 (x : Int) (b : Blk w g 3 #[.int .i64 x]) (hx : intOk x) : Calls Tryd.prog 61 #[v, .slice (some ⟨g, 0, none⟩) 1 1] w fun e w' => ∃ u, e = .returned u ∧ OwnN B (N + 8) w' u (L ++ num8 x) ∧ Ext w w' := by
  have := tintsL h B hB _ 1 [x] (ints_sl [x] b) (Nat.le_refl _) (by simp) (by simp) (fun y hy => by simp at hy; subst hy; exact hx) hN
  simpa [numsB] using this
theorem tints2 (x y : Int) (b : Blk w g 3 #[.int .i64 x, .int .i64 y]) (hx : intOk x) (hy : intOk y) : Calls Tryd.prog 61 #[v, .slice (some ⟨g, 0, none⟩) 2 2] w fun e w' => ∃ u, e = .returned u ∧ OwnN B (N + 16) w' u (L ++ (num8 x ++ num8 y)) ∧ Ext w w' := by
  have := tintsL h B hB _ 2 [x, y] (ints_sl [x, y] b) (Nat.le_refl _) (by simp) (by simp) (fun z hz => by simp at hz; rcases hz with rfl | rfl <;> assumption) hN
  simpa [numsB] using this
theorem tints3 (x y z : Int) (b : Blk w g 3 #[.int .i64 x, .int .i64 y, .int .i64 z]) (hx : intOk x) (hy : intOk y) (hz : intOk z) : Calls Tryd.prog 61 #[v, .slice (some ⟨g, 0, none⟩) 3 3] w fun e w' => ∃ u, e = .returned u ∧ OwnN B (N + 24) w' u (L ++ (num8 x ++ (num8 y ++ num8 z))) ∧ Ext w w' := by
  have := tintsL h B hB _ 3 [x, y, z] (ints_sl [x, y, z] b) (Nat.le_refl _) (by simp) (by simp) (fun q hq => by simp at hq; rcases hq with rfl | rfl | rfl <;> assumption) hN
  simpa [numsB] using this
theorem cints1 (x : Int) (b : Blk w g 3 #[.int .i64 x]) (hx : intOk x) : Calls Tryd.prog 34 #[v, .slice (some ⟨g, 0, none⟩) 1 1] w fun e w' => ∃ u, e = .returned u ∧ OwnN B (N + 8) w' u (L ++ num8 x) ∧ Ext w w' := by
  have := cintsL h B hB _ 1 [x] (ints_sl [x] b) (Nat.le_refl _) (by simp) (by simp) (fun y hy => by simp at hy; subst hy; exact hx) hN
  simpa [numsB] using this
theorem cints2 (x y : Int) (b : Blk w g 3 #[.int .i64 x, .int .i64 y]) (hx : intOk x) (hy : intOk y) : Calls Tryd.prog 34 #[v, .slice (some ⟨g, 0, none⟩) 2 2] w fun e w' => ∃ u, e = .returned u ∧ OwnN B (N + 16) w' u (L ++ (num8 x ++ num8 y)) ∧ Ext w w' := by
  have := cintsL h B hB _ 2 [x, y] (ints_sl [x, y] b) (Nat.le_refl _) (by simp) (by simp) (fun z hz => by simp at hz; rcases hz with rfl | rfl <;> assumption) hN
  simpa [numsB] using this
theorem cints3 (x y z : Int) (b : Blk w g 3 #[.int .i64 x, .int .i64 y, .int .i64 z]) (hx : intOk x) (hy : intOk y) (hz : intOk z) : Calls Tryd.prog 34 #[v, .slice (some ⟨g, 0, none⟩) 3 3] w fun e w' => ∃ u, e = .returned u ∧ OwnN B (N + 24) w' u (L ++ (num8 x ++ (num8 y ++ num8 z))) ∧ Ext w w' := by
  have := cintsL h B hB _ 3 [x, y, z] (ints_sl [x, y, z] b) (Nat.le_refl _) (by simp) (by simp) (fun q hq => by simp at hq; rcases hq with rfl | rfl | rfl <;> assumption) hN
  simpa [numsB] using this
theorem ctexts1 (x : ByteArray) (b : Blk w g 9 #[.string x]) (hx : x.size ≤ 1048576) : Calls Tryd.prog 32 #[v, .slice (some ⟨g, 0, none⟩) 1 1] w fun e w' => ∃ u, e = .returned u ∧ OwnN B (N + 1048584) w' u (L ++ txtB x) ∧ Ext w w' := by
  have := ctextsL h B hB _ 1 [x] (txts_sl [x] b) (Nat.le_refl _) (by simp) (by simp) (fun y hy => by simp at hy; subst hy; exact hx) hN
  simpa [txtsB] using this
theorem ctexts2 (x y : ByteArray) (b : Blk w g 9 #[.string x, .string y]) (hx : x.size ≤ 1048576) (hy : y.size ≤ 1048576) : Calls Tryd.prog 32 #[v, .slice (some ⟨g, 0, none⟩) 2 2] w fun e w' => ∃ u, e = .returned u ∧ OwnN B (N + 2097168) w' u (L ++ (txtB x ++ txtB y)) ∧ Ext w w' := by
  have := ctextsL h B hB _ 2 [x, y] (txts_sl [x, y] b) (Nat.le_refl _) (by simp) (by simp) (fun z hz => by simp at hz; rcases hz with rfl | rfl <;> assumption) hN
  simpa [txtsB] using this
end
theorem b2i_ok (x : Bool) : intOk (b2i x) := by cases x <;> simp [intOk, b2i]
set_option maxHeartbeats 1000000 in
set_option maxRecDepth 100000 in
theorem one_any (x : Bool) (w : World) : Calls Tryd.prog 76 #[.bool x] w fun e w' => e = .returned (.int .i64 (b2i x)) ∧ Ext w w' := by
  cases x
  · go_enter Tryd.func76, Tryd.ntmps76
    go_wp2_with fail
    go_ret
    exact ⟨rfl, Ext.refl _⟩
  · go_enter Tryd.func76, Tryd.ntmps76
    go_wp2_with fail
    go_ret
    exact ⟨rfl, Ext.refl _⟩
structure GrFit (g : Grant) : Prop where
  r : intOk g.r
  p : g.p.size ≤ 1048576
  u : intOk g.u
set_option maxHeartbeats 9000000 in
set_option maxRecDepth 100000 in
theorem bytesOfL {N : Nat} {w : World} {v : Value} {L : List UInt8} (h : Buf N w v L) (B : Nat) (hB : B ≤ w.heap.size) (hN : N ≤ 800000000) (g : Grant) (hg : GrFit g) :
    Calls Tryd.prog 62 #[v, .agg (grA g)] w fun e w' => ∃ u, e = .returned u ∧ OwnN B (N + 1048608) w' u (L ++ gB g) ∧ Ext w w' := by
  obtain ⟨W, hW, hE, bx⟩ := box1 w (grA g) 30
  have x0 : W.cell? ⟨w.heap.size, 0, none⟩ = some (.int .i64 g.r) := bx 0 _ rfl
  have xr0 := fun (w' : World) (h : Ext W w') => h.cellk x0
  clear x0
  have x1 : W.cell? ⟨w.heap.size, 1, none⟩ = some (.string g.p) := bx 1 _ rfl
  have xr1 := fun (w' : World) (h : Ext W w') => h.cellk x1
  clear x1
  have x2 : W.cell? ⟨w.heap.size, 2, none⟩ = some (.bool g.x) := bx 2 _ rfl
  have xr2 := fun (w' : World) (h : Ext W w') => h.cellk x2
  clear x2
  have x3 : W.cell? ⟨w.heap.size, 3, none⟩ = some (.int .i64 g.u) := bx 3 _ rfl
  have xr3 := fun (w' : World) (h : Ext W w') => h.cellk x3
  clear x3
  have hb := h.ext hE
  have hB := Nat.le_trans hB hE.le
  have hY : Ext W W := Ext.refl W
  obtain ⟨P, hP⟩ : ∃ P : Ending → World → Prop, (fun e w' => ∃ u, e = .returned u ∧ OwnN B (N + 1048608) w' u (L ++ gB g) ∧ Ext w w') = P := ⟨_, rfl⟩
  rw [hP]
  have HP := Lib.hid hP
  generalize grA g = G at *
  clear bx h hP
  go_enter Tryd.func62, Tryd.ntmps62
  go_upto_region 1 with fail
  rw [← hW]
  clear hW
  refine wp_region_noPanic ?_
  refine tr_start (.y 0 (.y 1 (.y 2 (.y 5 (.y 6 (.y 8 (.y 9 (.y 11 (.y 12 (.e 3 (.e 4 (.e 7 (.e 10 (.e 13 (.e 14 (.y 15 .nil)))))))))))))))) (fun w' => Ext W w') (by kernel_rfl) (by as_aux_lemma => kernel_rfl) (fun _ _ _ _ _ h => h) (by (repeat (first | assumption | exact Ext.refl _ | refine Ext.drew ?_ | refine Ext.alloc ?_ _ | refine Ext.drewN ?_ _ | refine Ext.trans ?_ (by assumption)))) ?_
  have e0 : Ext W W.drew := (Ext.refl _).drew
  generalize W.drew = q0 at e0 ⊢
  have hY0 := hY.trans e0
  (first | (refine tr_off (a' := ?_) rfl rfl (by rfl) ?_ ?_; rotate_left 1; (· simp only [Act.put, zzA, zz0, zzS]; rfl)) | (refine tr_y (v := ?_) (a' := ?_) rfl rfl (by rfl) (fun w' hw' => ?_) ?_ ?_; rotate_left 2; (· go_simp; with_reducible rfl); (· simp only [Act.put, zzA, zz0, zzS]; rfl)))
  (first | (refine tr_off (a' := ?_) rfl rfl (by rfl) ?_ ?_; rotate_left 1; (· simp only [Act.put, zzA, zz0, zzS]; rfl)) | (refine tr_y (v := ?_) (a' := ?_) rfl rfl (by rfl) (fun w' hw' => ?_) ?_ ?_; rotate_left 2; (· go_simp; with_reducible rfl); (· simp only [Act.put, zzA, zz0, zzS]; rfl)))
  (first | (refine tr_off (a' := ?_) rfl rfl (by rfl) ?_ ?_; rotate_left 1; (· simp only [Act.put, zzA, zz0, zzS]; rfl)) | (refine tr_y (v := ?_) (a' := ?_) rfl rfl (by rfl) (fun w' hw' => ?_) ?_ ?_; rotate_left 2; (· go_simp; with_reducible rfl); (· simp only [Act.put, zzA, zz0, zzS]; rfl)))
  (first | (refine tr_off (a' := ?_) rfl rfl (by rfl) ?_ ?_; rotate_left 1; (· simp only [Act.put, zzA, zz0, zzS]; rfl)) | (refine tr_y (v := ?_) (a' := ?_) rfl rfl (by rfl) (fun w' hw' => ?_) ?_ ?_; rotate_left 2; (· go_simp; with_reducible rfl); (· simp only [Act.put, zzA, zz0, zzS]; rfl)))
  (first | (refine tr_off (a' := ?_) rfl rfl (by rfl) ?_ ?_; rotate_left 1; (· simp only [Act.put, zzA, zz0, zzS]; rfl)) | (refine tr_y (v := ?_) (a' := ?_) rfl rfl (by rfl) (fun w' hw' => ?_) ?_ ?_; rotate_left 2; (· go_simp; with_reducible rfl); (· simp only [Act.put, zzA, zz0, zzS]; rfl)))
  (first | (refine tr_off (a' := ?_) rfl rfl (by rfl) ?_ ?_; rotate_left 1; (· simp only [Act.put, zzA, zz0, zzS]; rfl)) | (refine tr_y (v := ?_) (a' := ?_) rfl rfl (by rfl) (fun w' hw' => ?_) ?_ ?_; rotate_left 2; (· go_simp; with_reducible rfl); (· simp only [Act.put, zzA, zz0, zzS]; rfl)))
  (first | (refine tr_off (a' := ?_) rfl rfl (by rfl) ?_ ?_; rotate_left 1; (· simp only [Act.put, zzA, zz0, zzS]; rfl)) | (refine tr_y (v := ?_) (a' := ?_) rfl rfl (by rfl) (fun w' hw' => ?_) ?_ ?_; rotate_left 2; (· go_simp; with_reducible rfl); (· simp only [Act.put, zzA, zz0, zzS]; rfl)))
  (first | (refine tr_off (a' := ?_) rfl rfl (by rfl) ?_ ?_; rotate_left 1; (· simp only [Act.put, zzA, zz0, zzS]; rfl)) | (refine tr_y (v := ?_) (a' := ?_) rfl rfl (by rfl) (fun w' hw' => ?_) ?_ ?_; rotate_left 2; (· go_simp; with_reducible rfl); (· simp only [Act.put, zzA, zz0, zzS]; rfl)))
  (first | (refine tr_off (a' := ?_) rfl rfl (by rfl) ?_ ?_; rotate_left 1; (· simp only [Act.put, zzA, zz0, zzS]; rfl)) | (refine tr_y (v := ?_) (a' := ?_) rfl rfl (by rfl) (fun w' hw' => ?_) ?_ ?_; rotate_left 2; (· go_simp; with_reducible rfl); (· simp only [Act.put, zzA, zz0, zzS]; rfl)))
  have b8 := Blk.new q0 3 #[.int .i64 g.r]
  have e1 : Ext q0 (q0.alloc (.cells #[.int .i64 g.r] 3)) := (Ext.refl _).alloc _
  have hY1 := hY0.trans e1
  refine tr_value (v := ?_) (w1 := ?_) (a' := ?_) rfl rfl (by rfl) ?_ ?_ ?_ ?_
  rotate_left 3
  · go_simp; refine ⟨?_, ?_⟩ <;> with_reducible rfl
  · exact hY1
  · simp only [Act.put, zzA, zz0, zzS]; rfl
  generalize q0.alloc (.cells #[.int .i64 g.r] 3) = q1 at b8 e1 hY1 ⊢
  generalize q0.heap.size = g8 at b8 ⊢
  refine tr_call (args := ?_) rfl Tryd.func61 (by kernel_rfl) rfl (by rfl) rfl rfl ?_ ?_
  rotate_left 1
  · go_simp; rfl
  (with_reducible refine (tints1 (hb.ext hY1) B (Nat.le_trans hB (Ext.le hY1)) (by omega) g.r b8 hg.r).mono ?_)
  rintro e q2 ⟨u9, rfl, hO9, e2⟩
  have hY2 := hY1.trans e2
  refine ⟨_, _, rfl, hY2, (by simp only [Act.put, zzA, zz0, zzS]; rfl), ?_⟩
  refine tr_call (args := ?_) rfl Tryd.func60 (by kernel_rfl) rfl (by rfl) rfl rfl ?_ ?_
  rotate_left 1
  · go_simp; rfl
  (with_reducible refine (textL hO9.buf (by omega) B (Nat.le_trans hB (Ext.le hY2)) g.p hg.p).mono ?_)
  rintro e q3 ⟨u12, rfl, hO12, e3⟩
  have hY3 := hY2.trans e3
  refine ⟨_, _, rfl, hY3, (by simp only [Act.put, zzA, zz0, zzS]; rfl), ?_⟩
  refine tr_call (args := ?_) rfl Tryd.func76 (by kernel_rfl) rfl (by rfl) rfl rfl ?_ ?_
  rotate_left 1
  · go_simp; rfl
  (with_reducible refine (one_any g.x _).mono ?_)
  rintro e q4 ⟨rfl, e4⟩
  have hY4 := hY3.trans e4
  refine ⟨_, _, rfl, hY4, (by simp only [Act.put, zzA, zz0, zzS]; rfl), ?_⟩
  have b18 := Blk.new q4 3 #[.int .i64 (b2i g.x), .int .i64 g.u]
  have e5 : Ext q4 (q4.alloc (.cells #[.int .i64 (b2i g.x), .int .i64 g.u] 3)) := (Ext.refl _).alloc _
  have hY5 := hY4.trans e5
  refine tr_value (v := ?_) (w1 := ?_) (a' := ?_) rfl rfl (by rfl) ?_ ?_ ?_ ?_
  rotate_left 3
  · go_simp; refine ⟨?_, ?_⟩ <;> with_reducible rfl
  · exact hY5
  · simp only [Act.put, zzA, zz0, zzS]; rfl
  generalize q4.alloc (.cells #[.int .i64 (b2i g.x), .int .i64 g.u] 3) = q5 at b18 e5 hY5 ⊢
  generalize q4.heap.size = g18 at b18 ⊢
  refine tr_call (args := ?_) rfl Tryd.func61 (by kernel_rfl) rfl (by rfl) rfl rfl ?_ ?_
  rotate_left 1
  · go_simp; rfl
  (with_reducible refine (tints2 (hO12.ext (e4.trans e5)).buf B (Nat.le_trans hB (Ext.le hY5)) (by omega) (b2i g.x) g.u b18 (b2i_ok _) hg.u).mono ?_)
  rintro e q6 ⟨u19, rfl, hO19, e6⟩
  have hY6 := hY5.trans e6
  refine ⟨_, _, rfl, hY6, (by simp only [Act.put, zzA, zz0, zzS]; rfl), ?_⟩
  (first | (refine tr_off (a' := ?_) rfl rfl (by rfl) ?_ ?_; rotate_left 1; (· simp only [Act.put, zzA, zz0, zzS]; rfl)) | (refine tr_y (v := ?_) (a' := ?_) rfl rfl (by rfl) (fun w' hw' => ?_) ?_ ?_; rotate_left 2; (· go_simp; with_reducible rfl); (· simp only [Act.put, zzA, zz0, zzS]; rfl)))
  refine tr_end ?_
  refine NoPanic.normal ?_
  go_wp2_with fail
  rw [← HP.out]
  exact ⟨u19, rfl, (hO19.re (by simp [gB])).wide (by omega), hE.trans hY6⟩
theorem key4 {α β γ δ : Type} {p : Prop} (F G : α → β → γ → δ → Prop) (h : (∀ a b c d, F a b c d → G a b c d) → p) (k : ∀ a b c d, F a b c d → G a b c d) : p := h k
structure TokFit (t : Tok) : Prop where
  ten : t.ten.size ≤ 1048576
  id : intOk t.id
  n : t.gs.length ≤ 100
  g : ∀ g ∈ t.gs, GrFit g
  mac : t.mac.length = 32
theorem gB_len (g : Grant) (h : GrFit g) : (gB g).length ≤ 1048608 := by
  have := h.p
  unfold gB
  simp only [List.length_append, num8_len, txtB_len]
  omega
theorem gsB_one (l : List Grant) (k : Nat) (h : k < l.length) : (l.take (k + 1)).flatMap gB = (l.take k).flatMap gB ++ gB l[k] := by
  rw [List.take_succ_eq_append_getElem h, List.flatMap_append]
  simp
set_option maxHeartbeats 9000000 in
set_option maxRecDepth 100000 in
theorem tputL {N : Nat} {w : World} {v : Value} {L : List UInt8} (h : Buf N w v L) (B : Nat) (hB : B ≤ w.heap.size) (hN : N ≤ 500000000) (t : Tok) (ht : TokFit t) (a : Value) (hG : GsV w t.gs a) :
    Calls Tryd.prog 33 #[v, .agg (tokA t a)] w fun e w' => ∃ u, e = .returned u ∧ OwnN B (N + 110000000) w' u (L ++ tokB t) ∧ Ext w w' := by
  obtain ⟨A, c, rfl, hc, hS⟩ := hG
  obtain ⟨W, hW, hE, bx⟩ := box1 w (tokA t (.slice A t.gs.length c)) 27
  have B1 : Blk W w.heap.size 27 (tokA t (.slice A t.gs.length c)) := by rw [hW]; exact Blk.new _ _ _
  have x0 : W.cell? ⟨w.heap.size, 0, none⟩ = some (.string t.ten) := bx 0 _ rfl
  have xr0 := fun (w' : World) (h : Ext W w') => h.cellk x0
  clear x0
  have x1 : W.cell? ⟨w.heap.size, 1, none⟩ = some (.int .i64 t.id) := bx 1 _ rfl
  have xr1 := fun (w' : World) (h : Ext W w') => h.cellk x1
  clear x1
  have x2 : W.cell? ⟨w.heap.size, 2, none⟩ = some (.slice A t.gs.length c) := bx 2 _ rfl
  have xr2 := fun (w' : World) (h : Ext W w') => h.cellk x2
  clear x2
  have lm := fun (w' : World) (e : Ext W w') => load_part (B1.ext e) 3 (macA t.mac) [.string t.ten, .int .i64 t.id, .slice A t.gs.length c] [] rfl rfl 25 _ Tryd.underlying25 rfl (by kernel_rfl)
  have hb := h.ext hE
  have hB := Nat.le_trans hB hE.le
  have hY : Ext W W := Ext.refl W
  have hnl : intOk (t.gs.length : Int) := by have := ht.n; unfold intOk; omega
  obtain ⟨P, hP⟩ : ∃ P : Ending → World → Prop, (fun e w' => ∃ u, e = .returned u ∧ OwnN B (N + 110000000) w' u (L ++ tokB t) ∧ Ext w w') = P := ⟨_, rfl⟩
  rw [hP]
  have HP := Lib.hid hP
  obtain ⟨n, hln⟩ : ∃ n, t.gs.length = n := ⟨_, rfl⟩
  have hn := ht.n
  have hsm := fun (N' : Nat) (w' : World) (v' : Value) (L' : List UInt8) (h1 : Buf N' w' v' L') (h2 : N' ≤ 1000000000) (h3 : B ≤ w'.heap.size) => @sumL N' w' v' L' h1 h2 B h3 t.mac ht.mac
  rw [hln] at hS hc hW xr2 hnl hn ⊢
  have HL := Lib.hid hln
  generalize hMa : macA t.mac = M at lm hsm
  have HM := Lib.hid hMa
  generalize tokA t (.slice A n c) = T at *
  clear bx h hP hMa B1 hln
  go_enter Tryd.func33, Tryd.ntmps33
  go_upto_region 1 with fail
  rw [← hW]
  clear hW
  apply key4 (F := fun (g16 : Nat) (u10 u17 : Value) (wx : World) => OwnN B (N + 1048600) wx u17 (L ++ (txtB t.ten ++ (num8 t.id ++ num8 n))) ∧ Ext W wx)
  · intro key
    refine wp_region_noPanic ?_
    refine tr_start (.y 0 (.y 1 (.y 2 (.y 4 (.y 5 (.y 6 (.y 7 (.y 8 (.two 3 9 (.e 9 (.e 10 (.y 11 .nil))) (.e 3 (.e 10 (.y 11 .nil)))))))))))) (fun w' => Ext W w') (by kernel_rfl) (by as_aux_lemma => kernel_rfl) (fun _ _ _ _ _ h => h) (by (repeat (first | assumption | exact Ext.refl _ | refine Ext.drew ?_ | refine Ext.alloc ?_ _ | refine Ext.drewN ?_ _ | refine Ext.trans ?_ (by assumption)))) ?_
    have e0 : Ext W W.drew := (Ext.refl _).drew
    generalize W.drew = q0 at e0 ⊢
    have hY0 := hY.trans e0
    (first | (refine tr_off (a' := ?_) rfl rfl (by rfl) ?_ ?_; rotate_left 1; (· simp only [Act.put, zzA, zz0, zzS]; rfl)) | (refine tr_y (v := ?_) (a' := ?_) rfl rfl (by rfl) (fun w' hw' => ?_) ?_ ?_; rotate_left 2; (· go_simp; with_reducible rfl); (· simp only [Act.put, zzA, zz0, zzS]; rfl)))
    (first | (refine tr_off (a' := ?_) rfl rfl (by rfl) ?_ ?_; rotate_left 1; (· simp only [Act.put, zzA, zz0, zzS]; rfl)) | (refine tr_y (v := ?_) (a' := ?_) rfl rfl (by rfl) (fun w' hw' => ?_) ?_ ?_; rotate_left 2; (· go_simp; with_reducible rfl); (· simp only [Act.put, zzA, zz0, zzS]; rfl)))
    (first | (refine tr_off (a' := ?_) rfl rfl (by rfl) ?_ ?_; rotate_left 1; (· simp only [Act.put, zzA, zz0, zzS]; rfl)) | (refine tr_y (v := ?_) (a' := ?_) rfl rfl (by rfl) (fun w' hw' => ?_) ?_ ?_; rotate_left 2; (· go_simp; with_reducible rfl); (· simp only [Act.put, zzA, zz0, zzS]; rfl)))
    (first | (refine tr_off (a' := ?_) rfl rfl (by rfl) ?_ ?_; rotate_left 1; (· simp only [Act.put, zzA, zz0, zzS]; rfl)) | (refine tr_y (v := ?_) (a' := ?_) rfl rfl (by rfl) (fun w' hw' => ?_) ?_ ?_; rotate_left 2; (· go_simp; with_reducible rfl); (· simp only [Act.put, zzA, zz0, zzS]; rfl)))
    (first | (refine tr_off (a' := ?_) rfl rfl (by rfl) ?_ ?_; rotate_left 1; (· simp only [Act.put, zzA, zz0, zzS]; rfl)) | (refine tr_y (v := ?_) (a' := ?_) rfl rfl (by rfl) (fun w' hw' => ?_) ?_ ?_; rotate_left 2; (· go_simp; with_reducible rfl); (· simp only [Act.put, zzA, zz0, zzS]; rfl)))
    (first | (refine tr_off (a' := ?_) rfl rfl (by rfl) ?_ ?_; rotate_left 1; (· simp only [Act.put, zzA, zz0, zzS]; rfl)) | (refine tr_y (v := ?_) (a' := ?_) rfl rfl (by rfl) (fun w' hw' => ?_) ?_ ?_; rotate_left 2; (· go_simp; with_reducible rfl); (· simp only [Act.put, zzA, zz0, zzS]; rfl)))
    (first | (refine tr_off (a' := ?_) rfl rfl (by rfl) ?_ ?_; rotate_left 1; (· simp only [Act.put, zzA, zz0, zzS]; rfl)) | (refine tr_y (v := ?_) (a' := ?_) rfl rfl (by rfl) (fun w' hw' => ?_) ?_ ?_; rotate_left 2; (· go_simp; with_reducible rfl); (· simp only [Act.put, zzA, zz0, zzS]; rfl)))
    (first | (refine tr_off (a' := ?_) rfl rfl (by rfl) ?_ ?_; rotate_left 1; (· simp only [Act.put, zzA, zz0, zzS]; rfl)) | (refine tr_y (v := ?_) (a' := ?_) rfl rfl (by rfl) (fun w' hw' => ?_) ?_ ?_; rotate_left 2; (· go_simp; with_reducible rfl); (· simp only [Act.put, zzA, zz0, zzS]; rfl)))
    refine tr_two ?_ ?_
    · refine tr_call (args := ?_) rfl Tryd.func60 (by kernel_rfl) rfl (by rfl) rfl rfl ?_ ?_
      rotate_left 1
      · go_simp; rfl
      (with_reducible refine (textL (hb.ext hY0) (by omega) B (Nat.le_trans hB (Ext.le hY0)) t.ten ht.ten).mono ?_)
      rintro e q1 ⟨u10, rfl, hO10, e1⟩
      have hY1 := hY0.trans e1
      refine ⟨_, _, rfl, hY1, (by simp only [Act.put, zzA, zz0, zzS]; rfl), ?_⟩
      have b16 := Blk.new q1 3 #[.int .i64 t.id, .int .i64 n]
      have e2 : Ext q1 (q1.alloc (.cells #[.int .i64 t.id, .int .i64 n] 3)) := (Ext.refl _).alloc _
      have hY2 := hY1.trans e2
      refine tr_value (v := ?_) (w1 := ?_) (a' := ?_) rfl rfl (by rfl) ?_ ?_ ?_ ?_
      rotate_left 3
      · go_simp; refine ⟨?_, ?_⟩ <;> with_reducible rfl
      · exact hY2
      · simp only [Act.put, zzA, zz0, zzS]; rfl
      generalize q1.alloc (.cells #[.int .i64 t.id, .int .i64 n] 3) = q2 at b16 e2 hY2 ⊢
      generalize q1.heap.size = g16 at b16 ⊢
      refine tr_call (args := ?_) rfl Tryd.func61 (by kernel_rfl) rfl (by rfl) rfl rfl ?_ ?_
      rotate_left 1
      · go_simp; rfl
      (with_reducible refine (tints2 (hO10.ext e2).buf B (Nat.le_trans hB (Ext.le hY2)) (by omega) t.id n b16 ht.id hnl).mono ?_)
      rintro e q3 ⟨u17, rfl, hO17, e3⟩
      have hY3 := hY2.trans e3
      refine ⟨_, _, rfl, hY3, (by simp only [Act.put, zzA, zz0, zzS]; rfl), ?_⟩
      (first | (refine tr_off (a' := ?_) rfl rfl (by rfl) ?_ ?_; rotate_left 1; (· simp only [Act.put, zzA, zz0, zzS]; rfl)) | (refine tr_y (v := ?_) (a' := ?_) rfl rfl (by rfl) (fun w' hw' => ?_) ?_ ?_; rotate_left 2; (· go_simp; with_reducible rfl); (· simp only [Act.put, zzA, zz0, zzS]; rfl)))
      refine tr_end ?_
      (refine NoPanic.normal ?_; exact key g16 u10 u17 q3 ⟨(hO17.re (by simp)).wide (by omega), hY3⟩)
    · have b16 := Blk.new q0 3 #[.int .i64 t.id, .int .i64 n]
      have e1 : Ext q0 (q0.alloc (.cells #[.int .i64 t.id, .int .i64 n] 3)) := (Ext.refl _).alloc _
      have hY1 := hY0.trans e1
      refine tr_value (v := ?_) (w1 := ?_) (a' := ?_) rfl rfl (by rfl) ?_ ?_ ?_ ?_
      rotate_left 3
      · go_simp; refine ⟨?_, ?_⟩ <;> with_reducible rfl
      · exact hY1
      · simp only [Act.put, zzA, zz0, zzS]; rfl
      generalize q0.alloc (.cells #[.int .i64 t.id, .int .i64 n] 3) = q1 at b16 e1 hY1 ⊢
      generalize q0.heap.size = g16 at b16 ⊢
      refine tr_call (args := ?_) rfl Tryd.func60 (by kernel_rfl) rfl (by rfl) rfl rfl ?_ ?_
      rotate_left 1
      · go_simp; rfl
      (with_reducible refine (textL (hb.ext hY1) (by omega) B (Nat.le_trans hB (Ext.le hY1)) t.ten ht.ten).mono ?_)
      rintro e q2 ⟨u10, rfl, hO10, e2⟩
      have hY2 := hY1.trans e2
      refine ⟨_, _, rfl, hY2, (by simp only [Act.put, zzA, zz0, zzS]; rfl), ?_⟩
      refine tr_call (args := ?_) rfl Tryd.func61 (by kernel_rfl) rfl (by rfl) rfl rfl ?_ ?_
      rotate_left 1
      · go_simp; rfl
      (with_reducible refine (tints2 hO10.buf B (Nat.le_trans hB (Ext.le hY2)) (by omega) t.id n (b16.ext e2) ht.id hnl).mono ?_)
      rintro e q3 ⟨u17, rfl, hO17, e3⟩
      have hY3 := hY2.trans e3
      refine ⟨_, _, rfl, hY3, (by simp only [Act.put, zzA, zz0, zzS]; rfl), ?_⟩
      (first | (refine tr_off (a' := ?_) rfl rfl (by rfl) ?_ ?_; rotate_left 1; (· simp only [Act.put, zzA, zz0, zzS]; rfl)) | (refine tr_y (v := ?_) (a' := ?_) rfl rfl (by rfl) (fun w' hw' => ?_) ?_ ?_; rotate_left 2; (· go_simp; with_reducible rfl); (· simp only [Act.put, zzA, zz0, zzS]; rfl)))
      refine tr_end ?_
      (refine NoPanic.normal ?_; exact key g16 u10 u17 q3 ⟨(hO17.re (by simp)).wide (by omega), hY3⟩)
  · intro g16 u10 u17 wx hkey
    obtain ⟨hO, hX⟩ := hkey
    go_wp2_with fail
    go_loopw [0, 21] (fun s i wr => ∃ k : Nat, k ≤ n ∧ i = .int .i64 k ∧ OwnN B (N + 1048600 + 1048608 * k) wr s (L ++ (txtB t.ten ++ (num8 t.id ++ (num8 n ++ (t.gs.take k).flatMap gB)))) ∧ Ext W wr) (fun _ i _ => n - (intOf i).toNat)
    case atStart => exact ⟨0, by omega, rfl, by simpa using hO, hX⟩
    case round =>
      clear hO hX
      obtain ⟨k, hkn, rfl, hO, hwr⟩ := hrel
      by_cases hlt : k < n
      · obtain ⟨b, o, cs, rfl, hK, hcell⟩ := (hS.ext (hE.trans hwr)).get k hlt
        obtain rfl := gr_cells hK
        have hl := HL.out
        have hone := gsB_one t.gs k (by omega)
        have hgf := ht.g _ (List.getElem_mem (l := t.gs) (n := k) (by omega))
        generalize t.gs[k]'(by omega) = x at *
        have x0 : wr.cell? ⟨b, o + k * 4, none⟩ = some (.int .i64 x.r) := hcell 0 _ rfl
        have x1 : wr.cell? ⟨b, o + k * 4 + 1, none⟩ = some (.string x.p) := hcell 1 _ rfl
        have x2 : wr.cell? ⟨b, o + k * 4 + 2, none⟩ = some (.bool x.x) := hcell 2 _ rfl
        have x3 : wr.cell? ⟨b, o + k * 4 + 3, none⟩ = some (.int .i64 x.u) := hcell 3 _ rfl
        have hbl := fun (w' : World) (e : Ext wr w') => (bytesOfL (hO.buf.ext e) B (Nat.le_trans hB (Nat.le_trans hwr.le e.le)) (by omega) x hgf).mono (R' := fun e9 w9 => ∃ u, e9 = .returned u ∧ OwnN B (N + 1048600 + 1048608 * (k + 1)) w9 u (L ++ (txtB t.ten ++ (num8 t.id ++ (num8 n ++ (t.gs.take (k + 1)).flatMap gB)))) ∧ Ext wr w9) (by rintro e9 w9 ⟨u, rfl, h1, h2⟩; exact ⟨u, rfl, (h1.re (by rw [hone]; simp)).wide (by omega), e.trans h2⟩)
        unfold grA at hbl
        clear hS hK hcell hone hgf hl hO
        go_wp2_with (go_at_call 62; (with_reducible refine (hbl _ (by (repeat (first | assumption | exact Ext.refl _ | refine Ext.set ?_ (Nat.le_refl _) _ | refine Ext.drew ?_ | refine Ext.alloc ?_ _ | refine Ext.drewN ?_ _ | refine Ext.trans ?_ (by assumption))))).mono ?_); rintro e w9 ⟨v9, rfl, hO9, hE9⟩)
        go_roundw
        case rel => first | exact ⟨k + 1, by omega, by go_num, hO9, hwr.trans hE9⟩ | ((repeat apply Exists.intro); exact ⟨⟨k + 1, by omega, by go_num, hO9, hwr.trans hE9⟩, rfl⟩)
        case measure => simp [intOf]; omega
      · obtain rfl : k = n := by omega
        have hs := hsm _ wr _ _ hO.buf (by omega) (Nat.le_trans hB hwr.le)
        have hl := lm wr hwr
        rw [← HL.out, List.take_length, HL.out] at hs
        clear hS hO hsm
        go_wp2_with (first | (refine wpList_load_by rfl rfl ?_ hl ?_; (· rfl)) | (go_at_call 56; (with_reducible refine hs.mono ?_); rintro e w9 ⟨v9, rfl, hO9, hE9⟩))
        rw [← HP.out]
        exact ⟨v9, rfl, (hO9.re (by simp [tokB, HL.out])).wide (by omega), hE.trans (hwr.trans hE9)⟩
end Go.Proofs.YtgfhbachgniipaaDoor

namespace Go.Proofs.YtgfhbachgniipaaDoor
open Go.RowKit
theorem blobs_one (l : List (List UInt8)) (k : Nat) (h : k < l.length) : (l.take (k + 1)).flatMap blobB = (l.take k).flatMap blobB ++ blobB l[k] := by
  rw [List.take_succ_eq_append_getElem h, List.flatMap_append]
  simp
set_option maxHeartbeats 1000000 in
set_option maxRecDepth 100000 in
theorem rowsB_any {N : Nat} {w : World} {v : Value} {L : List UInt8} (h : Buf N w v L) (B : Nat) (hB : B ≤ w.heap.size) (hN : N ≤ 700000000) (l : List (List UInt8)) (b : Value) (hD : BsV w l b) (hn : l.length ≤ 100) (hx : ∀ x ∈ l, x.length ≤ 1048576) :
    Calls Tryd.prog 35 #[v, b, .func (.func 36) #[] #[]] w fun e w' => ∃ u, e = .returned u ∧ OwnN B (N + 105000000) w' u (L ++ (num8 l.length ++ l.flatMap blobB)) ∧ Ext w w' := by
  obtain ⟨D, c, rfl, hc, hS⟩ := hD
  obtain ⟨n, hln⟩ : ∃ n, l.length = n := ⟨_, rfl⟩
  have hnn : intOk (l.length : Int) := by unfold intOk; omega
  have hi := intL h (by omega) B hB l.length hnn
  rw [hln] at hS hc hn hi ⊢
  have HL := Lib.hid hln
  clear hln hnn
  go_enter Tryd.func35, Tryd.ntmps35
  go_wp2_with (go_at_call 63; (with_reducible refine hi.mono ?_); rintro e w1 ⟨u1, rfl, hO1, hE1⟩)
  clear hi
  go_loopw [0, 15] (fun s i wr => ∃ k : Nat, k ≤ n ∧ i = .int .i64 k ∧ OwnN B (N + 8 + 1048584 * k) wr s (L ++ (num8 n ++ (l.take k).flatMap blobB)) ∧ Ext w wr) (fun _ i _ => n - (intOf i).toNat)
  case atStart => exact ⟨0, by omega, rfl, by simpa using hO1, hE1⟩
  case round =>
    clear hO1 hE1
    obtain ⟨k, hkn, rfl, hO, hwr⟩ := hrel
    by_cases hlt : k < n
    · obtain ⟨bb, o, A1, c1, rfl, x0, h1c, h1S⟩ := n_get (hS.ext hwr) k hlt
      have hl := HL.out
      have hone := blobs_one l k (by omega)
      have hxm := hx _ (List.getElem_mem (l := l) (n := k) (by omega))
      generalize l[k]'(by omega) = x at *
      have hbl := (blobL hO.buf (by omega) B (Nat.le_trans hB hwr.le) A1 c1 x h1S h1c hxm).mono (R' := fun e9 w9 => ∃ u, e9 = .returned u ∧ OwnN B (N + 8 + 1048584 * (k + 1)) w9 u (L ++ (num8 n ++ (l.take (k + 1)).flatMap blobB)) ∧ Ext wr w9) (by rintro e9 w9 ⟨u, rfl, h1, h2⟩; exact ⟨u, rfl, (h1.re (by rw [hone]; simp)).wide (by omega), h2⟩)
      obtain ⟨nx, hnx⟩ : ∃ nx, x.length = nx := ⟨_, rfl⟩
      rw [hnx] at x0 hbl
      clear hS h1S hone hxm hl hO hnx h1c
      go_wp2_with (go_at_call 36; (with_reducible refine hbl.mono ?_); rintro e w9 ⟨v9, rfl, hO9, hE9⟩)
      go_roundw
      case rel => first | exact ⟨k + 1, by omega, by go_num, hO9, hwr.trans hE9⟩ | ((repeat apply Exists.intro); exact ⟨⟨k + 1, by omega, by go_num, hO9, hwr.trans hE9⟩, rfl⟩)
      case measure => simp [intOf]; omega
    · obtain rfl : k = n := by omega
      have htk : l.take k = l := List.take_of_length_le (by rw [HL.out]; omega)
      rw [htk] at hO
      clear hS htk
      go_wp2_with fail
      go_ret
      exact ⟨_, rfl, hO.wide (by omega), hwr⟩
structure CmdFitL (c : Cmd) : Prop where
  tok : TokFit c.tok
  kind : intOk c.kind
  ex : intOk c.ex
  fr : intOk c.fr
  ct : intOk c.ct
  id : intOk c.id
  gr : intOk c.gr.r
  gu : intOk c.gr.u
  st : c.st.size ≤ 1048576
  su : c.su.size ≤ 1048576
  gp : c.gr.p.size ≤ 1048576
  m : c.bodies.length ≤ 100
  x : ∀ x ∈ c.bodies, x.length ≤ 1048576
theorem CmdFitL.len {c : Cmd} (h : CmdFitL c) : CmdLen c := ⟨Nat.le_trans h.tok.n (by decide), fun g hg => Nat.le_trans (h.tok.g g hg).p (by decide), Nat.le_trans h.m (by decide), fun x hx => Nat.le_trans (h.x x hx) (by decide), Nat.le_trans h.st (by decide), Nat.le_trans h.su (by decide), Nat.le_trans h.gp (by decide)⟩
def PutC (w : World) (c : Cmd) (e : Ending) (w' : World) : Prop :=
  (cmdG c ≠ 0 → e = .returned (.tuple #[.slice none 0 0, .int .i64 (cmdG c)])) ∧ (cmdG c = 0 → ∃ u, e = .returned (.tuple #[u, .int .i64 0]) ∧ OwnN w.heap.size 400000000 w' u (cmdB c)) ∧ Ext w w'
theorem key5 {α β γ δ ε : Type} {p : Prop} (F G : α → β → γ → δ → ε → Prop) (h : (∀ a b c d e, F a b c d e → G a b c d e) → p) (k : ∀ a b c d e, F a b c d e → G a b c d e) : p := h k
theorem key6 {α β γ δ ε ζ : Type} {p : Prop} (F G : α → β → γ → δ → ε → ζ → Prop) (h : (∀ a b c d e f, F a b c d e f → G a b c d e f) → p) (k : ∀ a b c d e f, F a b c d e f → G a b c d e f) : p := h k
instance decIntOk (v : Int) : Decidable (intOk v) := inferInstanceAs (Decidable (_ ∧ _))
set_option maxHeartbeats 9000000 in
set_option maxRecDepth 100000 in
theorem cput_any (w : World) (c : Cmd) (a b : Value) (hO : OfAt w) (hG : GsV w c.tok.gs a) (hD : BsV w c.bodies b) (hf : CmdFitL c) :
    Calls Tryd.prog 11 #[.agg (cmdA c a b)] w (PutC w c) := by
  have hck := fun (w' : World) (e : Ext w w') => cmdCheck_any w' c a b (hO.ext e) (hG.ext e) (hD.ext e) hf.len
  obtain ⟨W, hW, hE, bx⟩ := box1 w (cmdA c a b) 32
  have B1 : Blk W w.heap.size 32 (cmdA c a b) := by rw [hW]; exact Blk.new _ _ _
  have l0 := load_whole B1 32 _ Tryd.underlying32 rfl (by kernel_rfl)
  have l1 := fun (w' : World) (e : Ext W w') => load_part (B1.ext e) 1 (tokA c.tok a) [.int .i64 c.kind] [.string c.st, .string c.su, .int .i64 c.ex, b, .int .i64 c.fr, .int .i64 c.ct, .int .i64 c.gr.r, .string c.gr.p, .bool c.gr.x, .int .i64 c.gr.u, .int .i64 c.id] rfl rfl 27 _ Tryd.underlying27 rfl (by kernel_rfl)
  have x0 : W.cell? ⟨w.heap.size, 0, none⟩ = some (.int .i64 c.kind) := bx 0 _ rfl
  have xr0 := fun (w' : World) (h : Ext W w') => h.cellk x0
  clear x0
  have x36 : W.cell? ⟨w.heap.size, 36, none⟩ = some (.string c.st) := bx 36 _ rfl
  have xr36 := fun (w' : World) (h : Ext W w') => h.cellk x36
  clear x36
  have x37 : W.cell? ⟨w.heap.size, 37, none⟩ = some (.string c.su) := bx 37 _ rfl
  have xr37 := fun (w' : World) (h : Ext W w') => h.cellk x37
  clear x37
  have x38 : W.cell? ⟨w.heap.size, 38, none⟩ = some (.int .i64 c.ex) := bx 38 _ rfl
  have xr38 := fun (w' : World) (h : Ext W w') => h.cellk x38
  clear x38
  have x39 : W.cell? ⟨w.heap.size, 39, none⟩ = some (b) := bx 39 _ rfl
  have xr39 := fun (w' : World) (h : Ext W w') => h.cellk x39
  clear x39
  have x40 : W.cell? ⟨w.heap.size, 40, none⟩ = some (.int .i64 c.fr) := bx 40 _ rfl
  have xr40 := fun (w' : World) (h : Ext W w') => h.cellk x40
  clear x40
  have x41 : W.cell? ⟨w.heap.size, 41, none⟩ = some (.int .i64 c.ct) := bx 41 _ rfl
  have xr41 := fun (w' : World) (h : Ext W w') => h.cellk x41
  clear x41
  have x42 : W.cell? ⟨w.heap.size, 42, none⟩ = some (.int .i64 c.gr.r) := bx 42 _ rfl
  have xr42 := fun (w' : World) (h : Ext W w') => h.cellk x42
  clear x42
  have x43 : W.cell? ⟨w.heap.size, 43, none⟩ = some (.string c.gr.p) := bx 43 _ rfl
  have xr43 := fun (w' : World) (h : Ext W w') => h.cellk x43
  clear x43
  have x44 : W.cell? ⟨w.heap.size, 44, none⟩ = some (.bool c.gr.x) := bx 44 _ rfl
  have xr44 := fun (w' : World) (h : Ext W w') => h.cellk x44
  clear x44
  have x45 : W.cell? ⟨w.heap.size, 45, none⟩ = some (.int .i64 c.gr.u) := bx 45 _ rfl
  have xr45 := fun (w' : World) (h : Ext W w') => h.cellk x45
  clear x45
  have x46 : W.cell? ⟨w.heap.size, 46, none⟩ = some (.int .i64 c.id) := bx 46 _ rfl
  have xr46 := fun (w' : World) (h : Ext W w') => h.cellk x46
  clear x46
  have hGW := fun (w' : World) (e : Ext W w') => hG.ext (hE.trans e)
  have hDW := fun (w' : World) (e : Ext W w') => hD.ext (hE.trans e)
  obtain ⟨P, hP⟩ : ∃ P, PutC w c = P := ⟨_, rfl⟩
  obtain ⟨v, hv⟩ : ∃ v, cmdG c = v := ⟨_, rfl⟩
  rw [hv] at hck
  rw [hP]
  have HP := Lib.hid hP
  have HV := Lib.hid hv
  have hB : w.heap.size ≤ W.heap.size := hE.le
  have htp := fun (N' : Nat) (w' : World) (v' : Value) (L' : List UInt8) (h1 : Buf N' w' v' L') (h2 : N' ≤ 500000000) (e : Ext W w') => @tputL N' w' v' L' h1 w.heap.size (Nat.le_trans hB e.le) h2 c.tok hf.tok a (hGW w' e)
  generalize hC : cmdA c a b = C at *
  generalize tokA c.tok a = T at *
  clear hP hv hO hG hD B1 bx hC
  by_cases h0 : v = 0
  · have h0' : (v != 0) = false := by simpa using h0
    have hz : cmdG c = 0 := HV.out.trans h0
    subst h0
    go_enter Tryd.func11, Tryd.ntmps11
    go_upto_region 1 with fail
    rw [← hW]
    clear hW
    cases hgx : c.gr.x
    · rw [hgx] at xr44
      go_upto_region 7 with (first | (refine wpList_load_by rfl rfl ?_ l0 ?_; (· rfl)) | (go_at_call 7; (with_reducible refine (hck _ hE).mono ?_); rintro e w1 ⟨rfl, hE1⟩; have hq44 := xr44 _ hE1))
      clear l0 hck
      apply key6 (F := fun (g17 g26 : Nat) (u18 u21 u27 : Value) (wx : World) => OwnN w.heap.size 112500000 wx u27 (num8 c.kind ++ (tokB c.tok ++ (txtB c.st ++ txtB c.su))) ∧ Ext W wx)
      · intro key
        refine wp_region_noPanic ?_
        refine tr_start (.y 0 (.y 1 (.y 4 (.y 5 (.y 7 (.y 8 (.y 9 (.y 10 (.two 2 11 (.two 3 11 (.two 6 11 (.e 11 (.e 12 (.y 13 .nil))) (.e 6 (.e 12 (.y 13 .nil)))) (.e 3 (.e 6 (.e 12 (.y 13 .nil))))) (.e 2 (.e 3 (.e 6 (.e 12 (.y 13 .nil)))))))))))))) (fun w' => Ext W w') (by kernel_rfl) (by as_aux_lemma => kernel_rfl) (fun _ _ _ _ _ h => h) (by (repeat (first | assumption | exact Ext.refl _ | refine Ext.drew ?_ | refine Ext.alloc ?_ _ | refine Ext.drewN ?_ _ | refine Ext.trans ?_ (by assumption)))) ?_
        have e0 : Ext w1 w1.drew := (Ext.refl _).drew
        generalize w1.drew = q0 at e0 ⊢
        have hY0 := hE1.trans e0
        (first | (refine tr_off (a' := ?_) rfl rfl (by rfl) ?_ ?_; rotate_left 1; (· simp only [Act.put, zzA, zz0, zzS]; rfl)) | (refine tr_y (v := ?_) (a' := ?_) rfl rfl (by rfl) (fun w' hw' => ?_) ?_ ?_; rotate_left 2; (· go_simp; with_reducible rfl); (· simp only [Act.put, zzA, zz0, zzS]; rfl)))
        (first | (refine tr_off (a' := ?_) rfl rfl (by rfl) ?_ ?_; rotate_left 1; (· simp only [Act.put, zzA, zz0, zzS]; rfl)) | (refine tr_y (v := ?_) (a' := ?_) rfl rfl (by rfl) (fun w' hw' => ?_) ?_ ?_; rotate_left 2; (· go_simp; with_reducible rfl); (· simp only [Act.put, zzA, zz0, zzS]; rfl)))
        (first | (refine tr_off (a' := ?_) rfl rfl (by rfl) ?_ ?_; rotate_left 1; (· simp only [Act.put, zzA, zz0, zzS]; rfl)) | (refine tr_y (v := ?_) (a' := ?_) rfl rfl (by rfl) (fun w' hw' => ?_) ?_ ?_; rotate_left 2; (· go_simp; with_reducible rfl); (· simp only [Act.put, zzA, zz0, zzS]; rfl)))
        refine tr_y (v := ?_) (a' := ?_) rfl rfl (by rfl) (fun w' hw' => ?_) ?_ ?_
        rotate_left 2
        · (refine (run_op_load rfl ?_ (l1 w' hw')).trans ?_; (· rfl); (· with_reducible rfl))
        · simp only [Act.put, zzA, zz0, zzS]; rfl
        (first | (refine tr_off (a' := ?_) rfl rfl (by rfl) ?_ ?_; rotate_left 1; (· simp only [Act.put, zzA, zz0, zzS]; rfl)) | (refine tr_y (v := ?_) (a' := ?_) rfl rfl (by rfl) (fun w' hw' => ?_) ?_ ?_; rotate_left 2; (· go_simp; with_reducible rfl); (· simp only [Act.put, zzA, zz0, zzS]; rfl)))
        (first | (refine tr_off (a' := ?_) rfl rfl (by rfl) ?_ ?_; rotate_left 1; (· simp only [Act.put, zzA, zz0, zzS]; rfl)) | (refine tr_y (v := ?_) (a' := ?_) rfl rfl (by rfl) (fun w' hw' => ?_) ?_ ?_; rotate_left 2; (· go_simp; with_reducible rfl); (· simp only [Act.put, zzA, zz0, zzS]; rfl)))
        (first | (refine tr_off (a' := ?_) rfl rfl (by rfl) ?_ ?_; rotate_left 1; (· simp only [Act.put, zzA, zz0, zzS]; rfl)) | (refine tr_y (v := ?_) (a' := ?_) rfl rfl (by rfl) (fun w' hw' => ?_) ?_ ?_; rotate_left 2; (· go_simp; with_reducible rfl); (· simp only [Act.put, zzA, zz0, zzS]; rfl)))
        (first | (refine tr_off (a' := ?_) rfl rfl (by rfl) ?_ ?_; rotate_left 1; (· simp only [Act.put, zzA, zz0, zzS]; rfl)) | (refine tr_y (v := ?_) (a' := ?_) rfl rfl (by rfl) (fun w' hw' => ?_) ?_ ?_; rotate_left 2; (· go_simp; with_reducible rfl); (· simp only [Act.put, zzA, zz0, zzS]; rfl)))
        refine tr_two ?_ ?_
        · have b17 := Blk.new q0 3 #[.int .i64 c.kind]
          have e1 : Ext q0 (q0.alloc (.cells #[.int .i64 c.kind] 3)) := (Ext.refl _).alloc _
          have hY1 := hY0.trans e1
          refine tr_value (v := ?_) (w1 := ?_) (a' := ?_) rfl rfl (by rfl) ?_ ?_ ?_ ?_
          rotate_left 3
          · go_simp; refine ⟨?_, ?_⟩ <;> with_reducible rfl
          · exact hY1
          · simp only [Act.put, zzA, zz0, zzS]; rfl
          generalize q0.alloc (.cells #[.int .i64 c.kind] 3) = q1 at b17 e1 hY1 ⊢
          generalize q0.heap.size = g17 at b17 ⊢
          refine tr_two ?_ ?_
          · refine tr_call (args := ?_) rfl Tryd.func34 (by kernel_rfl) rfl (by rfl) rfl rfl ?_ ?_
            rotate_left 1
            · go_simp; rfl
            (with_reducible refine (cints1 (Buf.nil _) w.heap.size (Nat.le_trans hB (Ext.le hY1)) (by decide) c.kind b17 hf.kind).mono ?_)
            rintro e q2 ⟨u18, rfl, hO18, e2⟩
            have hY2 := hY1.trans e2
            refine ⟨_, _, rfl, hY2, (by simp only [Act.put, zzA, zz0, zzS]; rfl), ?_⟩
            refine tr_two ?_ ?_
            · refine tr_call (args := ?_) rfl Tryd.func33 (by kernel_rfl) rfl (by rfl) rfl rfl ?_ ?_
              rotate_left 1
              · go_simp; rfl
              (with_reducible refine (htp _ _ _ _ hO18.buf (by decide) hY2).mono ?_)
              rintro e q3 ⟨u21, rfl, hO21, e3⟩
              have hY3 := hY2.trans e3
              refine ⟨_, _, rfl, hY3, (by simp only [Act.put, zzA, zz0, zzS]; rfl), ?_⟩
              have b26 := Blk.new q3 9 #[.string c.st, .string c.su]
              have e4 : Ext q3 (q3.alloc (.cells #[.string c.st, .string c.su] 9)) := (Ext.refl _).alloc _
              have hY4 := hY3.trans e4
              refine tr_value (v := ?_) (w1 := ?_) (a' := ?_) rfl rfl (by rfl) ?_ ?_ ?_ ?_
              rotate_left 3
              · go_simp; refine ⟨?_, ?_⟩ <;> with_reducible rfl
              · exact hY4
              · simp only [Act.put, zzA, zz0, zzS]; rfl
              generalize q3.alloc (.cells #[.string c.st, .string c.su] 9) = q4 at b26 e4 hY4 ⊢
              generalize q3.heap.size = g26 at b26 ⊢
              refine tr_call (args := ?_) rfl Tryd.func32 (by kernel_rfl) rfl (by rfl) rfl rfl ?_ ?_
              rotate_left 1
              · go_simp; rfl
              (with_reducible refine (ctexts2 (hO21.ext e4).buf w.heap.size (Nat.le_trans hB (Ext.le hY4)) (by decide) c.st c.su b26 hf.st hf.su).mono ?_)
              rintro e q5 ⟨u27, rfl, hO27, e5⟩
              have hY5 := hY4.trans e5
              refine ⟨_, _, rfl, hY5, (by simp only [Act.put, zzA, zz0, zzS]; rfl), ?_⟩
              (first | (refine tr_off (a' := ?_) rfl rfl (by rfl) ?_ ?_; rotate_left 1; (· simp only [Act.put, zzA, zz0, zzS]; rfl)) | (refine tr_y (v := ?_) (a' := ?_) rfl rfl (by rfl) (fun w' hw' => ?_) ?_ ?_; rotate_left 2; (· go_simp; with_reducible rfl); (· simp only [Act.put, zzA, zz0, zzS]; rfl)))
              refine tr_end ?_
              (refine NoPanic.normal ?_; exact key g17 g26 u18 u21 u27 q5 ⟨(hO27.re (by simp)).wide (by decide), hY5⟩)
            · have b26 := Blk.new q2 9 #[.string c.st, .string c.su]
              have e3 : Ext q2 (q2.alloc (.cells #[.string c.st, .string c.su] 9)) := (Ext.refl _).alloc _
              have hY3 := hY2.trans e3
              refine tr_value (v := ?_) (w1 := ?_) (a' := ?_) rfl rfl (by rfl) ?_ ?_ ?_ ?_
              rotate_left 3
              · go_simp; refine ⟨?_, ?_⟩ <;> with_reducible rfl
              · exact hY3
              · simp only [Act.put, zzA, zz0, zzS]; rfl
              generalize q2.alloc (.cells #[.string c.st, .string c.su] 9) = q3 at b26 e3 hY3 ⊢
              generalize q2.heap.size = g26 at b26 ⊢
              refine tr_call (args := ?_) rfl Tryd.func33 (by kernel_rfl) rfl (by rfl) rfl rfl ?_ ?_
              rotate_left 1
              · go_simp; rfl
              (with_reducible refine (htp _ _ _ _ (hO18.ext e3).buf (by decide) hY3).mono ?_)
              rintro e q4 ⟨u21, rfl, hO21, e4⟩
              have hY4 := hY3.trans e4
              refine ⟨_, _, rfl, hY4, (by simp only [Act.put, zzA, zz0, zzS]; rfl), ?_⟩
              refine tr_call (args := ?_) rfl Tryd.func32 (by kernel_rfl) rfl (by rfl) rfl rfl ?_ ?_
              rotate_left 1
              · go_simp; rfl
              (with_reducible refine (ctexts2 hO21.buf w.heap.size (Nat.le_trans hB (Ext.le hY4)) (by decide) c.st c.su (b26.ext e4) hf.st hf.su).mono ?_)
              rintro e q5 ⟨u27, rfl, hO27, e5⟩
              have hY5 := hY4.trans e5
              refine ⟨_, _, rfl, hY5, (by simp only [Act.put, zzA, zz0, zzS]; rfl), ?_⟩
              (first | (refine tr_off (a' := ?_) rfl rfl (by rfl) ?_ ?_; rotate_left 1; (· simp only [Act.put, zzA, zz0, zzS]; rfl)) | (refine tr_y (v := ?_) (a' := ?_) rfl rfl (by rfl) (fun w' hw' => ?_) ?_ ?_; rotate_left 2; (· go_simp; with_reducible rfl); (· simp only [Act.put, zzA, zz0, zzS]; rfl)))
              refine tr_end ?_
              (refine NoPanic.normal ?_; exact key g17 g26 u18 u21 u27 q5 ⟨(hO27.re (by simp)).wide (by decide), hY5⟩)
          · have b26 := Blk.new q1 9 #[.string c.st, .string c.su]
            have e2 : Ext q1 (q1.alloc (.cells #[.string c.st, .string c.su] 9)) := (Ext.refl _).alloc _
            have hY2 := hY1.trans e2
            refine tr_value (v := ?_) (w1 := ?_) (a' := ?_) rfl rfl (by rfl) ?_ ?_ ?_ ?_
            rotate_left 3
            · go_simp; refine ⟨?_, ?_⟩ <;> with_reducible rfl
            · exact hY2
            · simp only [Act.put, zzA, zz0, zzS]; rfl
            generalize q1.alloc (.cells #[.string c.st, .string c.su] 9) = q2 at b26 e2 hY2 ⊢
            generalize q1.heap.size = g26 at b26 ⊢
            refine tr_call (args := ?_) rfl Tryd.func34 (by kernel_rfl) rfl (by rfl) rfl rfl ?_ ?_
            rotate_left 1
            · go_simp; rfl
            (with_reducible refine (cints1 (Buf.nil _) w.heap.size (Nat.le_trans hB (Ext.le hY2)) (by decide) c.kind (b17.ext e2) hf.kind).mono ?_)
            rintro e q3 ⟨u18, rfl, hO18, e3⟩
            have hY3 := hY2.trans e3
            refine ⟨_, _, rfl, hY3, (by simp only [Act.put, zzA, zz0, zzS]; rfl), ?_⟩
            refine tr_call (args := ?_) rfl Tryd.func33 (by kernel_rfl) rfl (by rfl) rfl rfl ?_ ?_
            rotate_left 1
            · go_simp; rfl
            (with_reducible refine (htp _ _ _ _ hO18.buf (by decide) hY3).mono ?_)
            rintro e q4 ⟨u21, rfl, hO21, e4⟩
            have hY4 := hY3.trans e4
            refine ⟨_, _, rfl, hY4, (by simp only [Act.put, zzA, zz0, zzS]; rfl), ?_⟩
            refine tr_call (args := ?_) rfl Tryd.func32 (by kernel_rfl) rfl (by rfl) rfl rfl ?_ ?_
            rotate_left 1
            · go_simp; rfl
            (with_reducible refine (ctexts2 hO21.buf w.heap.size (Nat.le_trans hB (Ext.le hY4)) (by decide) c.st c.su (b26.ext (e3.trans e4)) hf.st hf.su).mono ?_)
            rintro e q5 ⟨u27, rfl, hO27, e5⟩
            have hY5 := hY4.trans e5
            refine ⟨_, _, rfl, hY5, (by simp only [Act.put, zzA, zz0, zzS]; rfl), ?_⟩
            (first | (refine tr_off (a' := ?_) rfl rfl (by rfl) ?_ ?_; rotate_left 1; (· simp only [Act.put, zzA, zz0, zzS]; rfl)) | (refine tr_y (v := ?_) (a' := ?_) rfl rfl (by rfl) (fun w' hw' => ?_) ?_ ?_; rotate_left 2; (· go_simp; with_reducible rfl); (· simp only [Act.put, zzA, zz0, zzS]; rfl)))
            refine tr_end ?_
            (refine NoPanic.normal ?_; exact key g17 g26 u18 u21 u27 q5 ⟨(hO27.re (by simp)).wide (by decide), hY5⟩)
        · have b26 := Blk.new q0 9 #[.string c.st, .string c.su]
          have e1 : Ext q0 (q0.alloc (.cells #[.string c.st, .string c.su] 9)) := (Ext.refl _).alloc _
          have hY1 := hY0.trans e1
          refine tr_value (v := ?_) (w1 := ?_) (a' := ?_) rfl rfl (by rfl) ?_ ?_ ?_ ?_
          rotate_left 3
          · go_simp; refine ⟨?_, ?_⟩ <;> with_reducible rfl
          · exact hY1
          · simp only [Act.put, zzA, zz0, zzS]; rfl
          generalize q0.alloc (.cells #[.string c.st, .string c.su] 9) = q1 at b26 e1 hY1 ⊢
          generalize q0.heap.size = g26 at b26 ⊢
          have b17 := Blk.new q1 3 #[.int .i64 c.kind]
          have e2 : Ext q1 (q1.alloc (.cells #[.int .i64 c.kind] 3)) := (Ext.refl _).alloc _
          have hY2 := hY1.trans e2
          refine tr_value (v := ?_) (w1 := ?_) (a' := ?_) rfl rfl (by rfl) ?_ ?_ ?_ ?_
          rotate_left 3
          · go_simp; refine ⟨?_, ?_⟩ <;> with_reducible rfl
          · exact hY2
          · simp only [Act.put, zzA, zz0, zzS]; rfl
          generalize q1.alloc (.cells #[.int .i64 c.kind] 3) = q2 at b17 e2 hY2 ⊢
          generalize q1.heap.size = g17 at b17 ⊢
          refine tr_call (args := ?_) rfl Tryd.func34 (by kernel_rfl) rfl (by rfl) rfl rfl ?_ ?_
          rotate_left 1
          · go_simp; rfl
          (with_reducible refine (cints1 (Buf.nil _) w.heap.size (Nat.le_trans hB (Ext.le hY2)) (by decide) c.kind b17 hf.kind).mono ?_)
          rintro e q3 ⟨u18, rfl, hO18, e3⟩
          have hY3 := hY2.trans e3
          refine ⟨_, _, rfl, hY3, (by simp only [Act.put, zzA, zz0, zzS]; rfl), ?_⟩
          refine tr_call (args := ?_) rfl Tryd.func33 (by kernel_rfl) rfl (by rfl) rfl rfl ?_ ?_
          rotate_left 1
          · go_simp; rfl
          (with_reducible refine (htp _ _ _ _ hO18.buf (by decide) hY3).mono ?_)
          rintro e q4 ⟨u21, rfl, hO21, e4⟩
          have hY4 := hY3.trans e4
          refine ⟨_, _, rfl, hY4, (by simp only [Act.put, zzA, zz0, zzS]; rfl), ?_⟩
          refine tr_call (args := ?_) rfl Tryd.func32 (by kernel_rfl) rfl (by rfl) rfl rfl ?_ ?_
          rotate_left 1
          · go_simp; rfl
          (with_reducible refine (ctexts2 hO21.buf w.heap.size (Nat.le_trans hB (Ext.le hY4)) (by decide) c.st c.su (b26.ext (e2.trans (e3.trans e4))) hf.st hf.su).mono ?_)
          rintro e q5 ⟨u27, rfl, hO27, e5⟩
          have hY5 := hY4.trans e5
          refine ⟨_, _, rfl, hY5, (by simp only [Act.put, zzA, zz0, zzS]; rfl), ?_⟩
          (first | (refine tr_off (a' := ?_) rfl rfl (by rfl) ?_ ?_; rotate_left 1; (· simp only [Act.put, zzA, zz0, zzS]; rfl)) | (refine tr_y (v := ?_) (a' := ?_) rfl rfl (by rfl) (fun w' hw' => ?_) ?_ ?_; rotate_left 2; (· go_simp; with_reducible rfl); (· simp only [Act.put, zzA, zz0, zzS]; rfl)))
          refine tr_end ?_
          (refine NoPanic.normal ?_; exact key g17 g26 u18 u21 u27 q5 ⟨(hO27.re (by simp)).wide (by decide), hY5⟩)
      intro g17 g26 u18 u21 u27 wx hkey
      obtain ⟨hO7, hY7⟩ := hkey
      go_upto_region 8 with fail
      refine wp_region_noPanic ?_
      refine tr_start (.y 0 (.y 1 (.y 2 (.y 5 (.y 6 (.e 3 (.e 4 (.e 7 (.y 8 .nil))))))))) (fun w' => Ext W w') (by kernel_rfl) (by as_aux_lemma => kernel_rfl) (fun _ _ _ _ _ h => h) (by (repeat (first | assumption | exact Ext.refl _ | refine Ext.drew ?_ | refine Ext.alloc ?_ _ | refine Ext.drewN ?_ _ | refine Ext.trans ?_ (by assumption)))) ?_
      have ea0 : Ext wx wx.drew := (Ext.refl _).drew
      generalize wx.drew = qa0 at ea0 ⊢
      have hYa0 := hY7.trans ea0
      (first | (refine tr_off (a' := ?_) rfl rfl (by rfl) ?_ ?_; rotate_left 1; (· simp only [Act.put, zzA, zz0, zzS]; rfl)) | (refine tr_y (v := ?_) (a' := ?_) rfl rfl (by rfl) (fun w' hw' => ?_) ?_ ?_; rotate_left 2; (· go_simp; with_reducible rfl); (· simp only [Act.put, zzA, zz0, zzS]; rfl)))
      (first | (refine tr_off (a' := ?_) rfl rfl (by rfl) ?_ ?_; rotate_left 1; (· simp only [Act.put, zzA, zz0, zzS]; rfl)) | (refine tr_y (v := ?_) (a' := ?_) rfl rfl (by rfl) (fun w' hw' => ?_) ?_ ?_; rotate_left 2; (· go_simp; with_reducible rfl); (· simp only [Act.put, zzA, zz0, zzS]; rfl)))
      (first | (refine tr_off (a' := ?_) rfl rfl (by rfl) ?_ ?_; rotate_left 1; (· simp only [Act.put, zzA, zz0, zzS]; rfl)) | (refine tr_y (v := ?_) (a' := ?_) rfl rfl (by rfl) (fun w' hw' => ?_) ?_ ?_; rotate_left 2; (· go_simp; with_reducible rfl); (· simp only [Act.put, zzA, zz0, zzS]; rfl)))
      (first | (refine tr_off (a' := ?_) rfl rfl (by rfl) ?_ ?_; rotate_left 1; (· simp only [Act.put, zzA, zz0, zzS]; rfl)) | (refine tr_y (v := ?_) (a' := ?_) rfl rfl (by rfl) (fun w' hw' => ?_) ?_ ?_; rotate_left 2; (· go_simp; with_reducible rfl); (· simp only [Act.put, zzA, zz0, zzS]; rfl)))
      (first | (refine tr_off (a' := ?_) rfl rfl (by rfl) ?_ ?_; rotate_left 1; (· simp only [Act.put, zzA, zz0, zzS]; rfl)) | (refine tr_y (v := ?_) (a' := ?_) rfl rfl (by rfl) (fun w' hw' => ?_) ?_ ?_; rotate_left 2; (· go_simp; with_reducible rfl); (· simp only [Act.put, zzA, zz0, zzS]; rfl)))
      have b31 := Blk.new qa0 3 #[.int .i64 c.ex]
      have ea1 : Ext qa0 (qa0.alloc (.cells #[.int .i64 c.ex] 3)) := (Ext.refl _).alloc _
      have hYa1 := hYa0.trans ea1
      refine tr_value (v := ?_) (w1 := ?_) (a' := ?_) rfl rfl (by rfl) ?_ ?_ ?_ ?_
      rotate_left 3
      · go_simp; refine ⟨?_, ?_⟩ <;> with_reducible rfl
      · exact hYa1
      · simp only [Act.put, zzA, zz0, zzS]; rfl
      generalize qa0.alloc (.cells #[.int .i64 c.ex] 3) = qa1 at b31 ea1 hYa1 ⊢
      generalize qa0.heap.size = g31 at b31 ⊢
      refine tr_call (args := ?_) rfl Tryd.func34 (by kernel_rfl) rfl (by rfl) rfl rfl ?_ ?_
      rotate_left 1
      · go_simp; rfl
      (with_reducible refine (cints1 (hO7.ext (ea0.trans ea1)).buf w.heap.size (Nat.le_trans hB (Ext.le hYa1)) (by decide) c.ex b31 hf.ex).mono ?_)
      rintro e qa2 ⟨u32, rfl, hO32, ea2⟩
      have hYa2 := hYa1.trans ea2
      refine ⟨_, _, rfl, hYa2, (by simp only [Act.put, zzA, zz0, zzS]; rfl), ?_⟩
      refine tr_call (args := ?_) rfl Tryd.func35 (by kernel_rfl) rfl (by rfl) rfl rfl ?_ ?_
      rotate_left 1
      · go_simp; rfl
      (with_reducible refine (rowsB_any hO32.buf w.heap.size (Nat.le_trans hB (Ext.le hYa2)) (by decide) c.bodies b (hDW _ hYa2) hf.m hf.x).mono ?_)
      rintro e qa3 ⟨u35, rfl, hO35, ea3⟩
      have hYa3 := hYa2.trans ea3
      refine ⟨_, _, rfl, hYa3, (by simp only [Act.put, zzA, zz0, zzS]; rfl), ?_⟩
      (first | (refine tr_off (a' := ?_) rfl rfl (by rfl) ?_ ?_; rotate_left 1; (· simp only [Act.put, zzA, zz0, zzS]; rfl)) | (refine tr_y (v := ?_) (a' := ?_) rfl rfl (by rfl) (fun w' hw' => ?_) ?_ ?_; rotate_left 2; (· go_simp; with_reducible rfl); (· simp only [Act.put, zzA, zz0, zzS]; rfl)))
      refine tr_end ?_
      refine NoPanic.normal ?_
      have hOa := (hO35.re (L' := num8 c.kind ++ (tokB c.tok ++ (txtB c.st ++ (txtB c.su ++ (num8 c.ex ++ (num8 c.bodies.length ++ c.bodies.flatMap blobB)))))) (by simp)).wide (N' := 220000000) (by decide)
      clear hO7 hO32 hO35 b31
      generalize qa3 = wy at *
      go_upto_region 9 with fail
      apply key5 (F := fun (g44 g49 : Nat) (u45 u50 : Value) (wx : World) => OwnN w.heap.size 222000000 wx u50 (num8 c.kind ++ (tokB c.tok ++ (txtB c.st ++ (txtB c.su ++ (num8 c.ex ++ ((num8 c.bodies.length ++ c.bodies.flatMap blobB) ++ (num8 c.fr ++ (num8 c.ct ++ (num8 c.gr.r ++ txtB c.gr.p))))))))) ∧ Ext W wx)
      · intro key
        refine wp_region_noPanic ?_
        refine tr_start (.y 0 (.y 1 (.y 2 (.y 3 (.y 4 (.y 5 (.y 6 (.y 7 (.y 10 (.y 11 (.y 12 (.two 8 13 (.two 9 13 (.e 13 (.e 14 (.y 15 .nil))) (.e 9 (.e 14 (.y 15 .nil)))) (.e 8 (.e 9 (.e 14 (.y 15 .nil)))))))))))))))) (fun w' => Ext W w') (by kernel_rfl) (by as_aux_lemma => kernel_rfl) (fun _ _ _ _ _ h => h) (by (repeat (first | assumption | exact Ext.refl _ | refine Ext.drew ?_ | refine Ext.alloc ?_ _ | refine Ext.drewN ?_ _ | refine Ext.trans ?_ (by assumption)))) ?_
        have eb0 : Ext wy wy.drew := (Ext.refl _).drew
        generalize wy.drew = qb0 at eb0 ⊢
        have hYb0 := hYa3.trans eb0
        (first | (refine tr_off (a' := ?_) rfl rfl (by rfl) ?_ ?_; rotate_left 1; (· simp only [Act.put, zzA, zz0, zzS]; rfl)) | (refine tr_y (v := ?_) (a' := ?_) rfl rfl (by rfl) (fun w' hw' => ?_) ?_ ?_; rotate_left 2; (· go_simp; with_reducible rfl); (· simp only [Act.put, zzA, zz0, zzS]; rfl)))
        (first | (refine tr_off (a' := ?_) rfl rfl (by rfl) ?_ ?_; rotate_left 1; (· simp only [Act.put, zzA, zz0, zzS]; rfl)) | (refine tr_y (v := ?_) (a' := ?_) rfl rfl (by rfl) (fun w' hw' => ?_) ?_ ?_; rotate_left 2; (· go_simp; with_reducible rfl); (· simp only [Act.put, zzA, zz0, zzS]; rfl)))
        (first | (refine tr_off (a' := ?_) rfl rfl (by rfl) ?_ ?_; rotate_left 1; (· simp only [Act.put, zzA, zz0, zzS]; rfl)) | (refine tr_y (v := ?_) (a' := ?_) rfl rfl (by rfl) (fun w' hw' => ?_) ?_ ?_; rotate_left 2; (· go_simp; with_reducible rfl); (· simp only [Act.put, zzA, zz0, zzS]; rfl)))
        (first | (refine tr_off (a' := ?_) rfl rfl (by rfl) ?_ ?_; rotate_left 1; (· simp only [Act.put, zzA, zz0, zzS]; rfl)) | (refine tr_y (v := ?_) (a' := ?_) rfl rfl (by rfl) (fun w' hw' => ?_) ?_ ?_; rotate_left 2; (· go_simp; with_reducible rfl); (· simp only [Act.put, zzA, zz0, zzS]; rfl)))
        (first | (refine tr_off (a' := ?_) rfl rfl (by rfl) ?_ ?_; rotate_left 1; (· simp only [Act.put, zzA, zz0, zzS]; rfl)) | (refine tr_y (v := ?_) (a' := ?_) rfl rfl (by rfl) (fun w' hw' => ?_) ?_ ?_; rotate_left 2; (· go_simp; with_reducible rfl); (· simp only [Act.put, zzA, zz0, zzS]; rfl)))
        (first | (refine tr_off (a' := ?_) rfl rfl (by rfl) ?_ ?_; rotate_left 1; (· simp only [Act.put, zzA, zz0, zzS]; rfl)) | (refine tr_y (v := ?_) (a' := ?_) rfl rfl (by rfl) (fun w' hw' => ?_) ?_ ?_; rotate_left 2; (· go_simp; with_reducible rfl); (· simp only [Act.put, zzA, zz0, zzS]; rfl)))
        (first | (refine tr_off (a' := ?_) rfl rfl (by rfl) ?_ ?_; rotate_left 1; (· simp only [Act.put, zzA, zz0, zzS]; rfl)) | (refine tr_y (v := ?_) (a' := ?_) rfl rfl (by rfl) (fun w' hw' => ?_) ?_ ?_; rotate_left 2; (· go_simp; with_reducible rfl); (· simp only [Act.put, zzA, zz0, zzS]; rfl)))
        (first | (refine tr_off (a' := ?_) rfl rfl (by rfl) ?_ ?_; rotate_left 1; (· simp only [Act.put, zzA, zz0, zzS]; rfl)) | (refine tr_y (v := ?_) (a' := ?_) rfl rfl (by rfl) (fun w' hw' => ?_) ?_ ?_; rotate_left 2; (· go_simp; with_reducible rfl); (· simp only [Act.put, zzA, zz0, zzS]; rfl)))
        (first | (refine tr_off (a' := ?_) rfl rfl (by rfl) ?_ ?_; rotate_left 1; (· simp only [Act.put, zzA, zz0, zzS]; rfl)) | (refine tr_y (v := ?_) (a' := ?_) rfl rfl (by rfl) (fun w' hw' => ?_) ?_ ?_; rotate_left 2; (· go_simp; with_reducible rfl); (· simp only [Act.put, zzA, zz0, zzS]; rfl)))
        (first | (refine tr_off (a' := ?_) rfl rfl (by rfl) ?_ ?_; rotate_left 1; (· simp only [Act.put, zzA, zz0, zzS]; rfl)) | (refine tr_y (v := ?_) (a' := ?_) rfl rfl (by rfl) (fun w' hw' => ?_) ?_ ?_; rotate_left 2; (· go_simp; with_reducible rfl); (· simp only [Act.put, zzA, zz0, zzS]; rfl)))
        (first | (refine tr_off (a' := ?_) rfl rfl (by rfl) ?_ ?_; rotate_left 1; (· simp only [Act.put, zzA, zz0, zzS]; rfl)) | (refine tr_y (v := ?_) (a' := ?_) rfl rfl (by rfl) (fun w' hw' => ?_) ?_ ?_; rotate_left 2; (· go_simp; with_reducible rfl); (· simp only [Act.put, zzA, zz0, zzS]; rfl)))
        refine tr_two ?_ ?_
        · have b44 := Blk.new qb0 3 #[.int .i64 c.fr, .int .i64 c.ct, .int .i64 c.gr.r]
          have eb1 : Ext qb0 (qb0.alloc (.cells #[.int .i64 c.fr, .int .i64 c.ct, .int .i64 c.gr.r] 3)) := (Ext.refl _).alloc _
          have hYb1 := hYb0.trans eb1
          refine tr_value (v := ?_) (w1 := ?_) (a' := ?_) rfl rfl (by rfl) ?_ ?_ ?_ ?_
          rotate_left 3
          · go_simp; refine ⟨?_, ?_⟩ <;> with_reducible rfl
          · exact hYb1
          · simp only [Act.put, zzA, zz0, zzS]; rfl
          generalize qb0.alloc (.cells #[.int .i64 c.fr, .int .i64 c.ct, .int .i64 c.gr.r] 3) = qb1 at b44 eb1 hYb1 ⊢
          generalize qb0.heap.size = g44 at b44 ⊢
          refine tr_two ?_ ?_
          · refine tr_call (args := ?_) rfl Tryd.func34 (by kernel_rfl) rfl (by rfl) rfl rfl ?_ ?_
            rotate_left 1
            · go_simp; rfl
            (with_reducible refine (cints3 (hOa.ext (eb0.trans eb1)).buf w.heap.size (Nat.le_trans hB (Ext.le hYb1)) (by decide) c.fr c.ct c.gr.r b44 hf.fr hf.ct hf.gr).mono ?_)
            rintro e qb2 ⟨u45, rfl, hO45, eb2⟩
            have hYb2 := hYb1.trans eb2
            refine ⟨_, _, rfl, hYb2, (by simp only [Act.put, zzA, zz0, zzS]; rfl), ?_⟩
            have b49 := Blk.new qb2 9 #[.string c.gr.p]
            have eb3 : Ext qb2 (qb2.alloc (.cells #[.string c.gr.p] 9)) := (Ext.refl _).alloc _
            have hYb3 := hYb2.trans eb3
            refine tr_value (v := ?_) (w1 := ?_) (a' := ?_) rfl rfl (by rfl) ?_ ?_ ?_ ?_
            rotate_left 3
            · go_simp; refine ⟨?_, ?_⟩ <;> with_reducible rfl
            · exact hYb3
            · simp only [Act.put, zzA, zz0, zzS]; rfl
            generalize qb2.alloc (.cells #[.string c.gr.p] 9) = qb3 at b49 eb3 hYb3 ⊢
            generalize qb2.heap.size = g49 at b49 ⊢
            refine tr_call (args := ?_) rfl Tryd.func32 (by kernel_rfl) rfl (by rfl) rfl rfl ?_ ?_
            rotate_left 1
            · go_simp; rfl
            (with_reducible refine (ctexts1 (hO45.ext eb3).buf w.heap.size (Nat.le_trans hB (Ext.le hYb3)) (by decide) c.gr.p b49 hf.gp).mono ?_)
            rintro e qb4 ⟨u50, rfl, hO50, eb4⟩
            have hYb4 := hYb3.trans eb4
            refine ⟨_, _, rfl, hYb4, (by simp only [Act.put, zzA, zz0, zzS]; rfl), ?_⟩
            (first | (refine tr_off (a' := ?_) rfl rfl (by rfl) ?_ ?_; rotate_left 1; (· simp only [Act.put, zzA, zz0, zzS]; rfl)) | (refine tr_y (v := ?_) (a' := ?_) rfl rfl (by rfl) (fun w' hw' => ?_) ?_ ?_; rotate_left 2; (· go_simp; with_reducible rfl); (· simp only [Act.put, zzA, zz0, zzS]; rfl)))
            refine tr_end ?_
            (refine NoPanic.normal ?_; exact key g44 g49 u45 u50 qb4 ⟨(hO50.re (by simp)).wide (by decide), hYb4⟩)
          · have b49 := Blk.new qb1 9 #[.string c.gr.p]
            have eb2 : Ext qb1 (qb1.alloc (.cells #[.string c.gr.p] 9)) := (Ext.refl _).alloc _
            have hYb2 := hYb1.trans eb2
            refine tr_value (v := ?_) (w1 := ?_) (a' := ?_) rfl rfl (by rfl) ?_ ?_ ?_ ?_
            rotate_left 3
            · go_simp; refine ⟨?_, ?_⟩ <;> with_reducible rfl
            · exact hYb2
            · simp only [Act.put, zzA, zz0, zzS]; rfl
            generalize qb1.alloc (.cells #[.string c.gr.p] 9) = qb2 at b49 eb2 hYb2 ⊢
            generalize qb1.heap.size = g49 at b49 ⊢
            refine tr_call (args := ?_) rfl Tryd.func34 (by kernel_rfl) rfl (by rfl) rfl rfl ?_ ?_
            rotate_left 1
            · go_simp; rfl
            (with_reducible refine (cints3 (hOa.ext (eb0.trans (eb1.trans eb2))).buf w.heap.size (Nat.le_trans hB (Ext.le hYb2)) (by decide) c.fr c.ct c.gr.r (b44.ext eb2) hf.fr hf.ct hf.gr).mono ?_)
            rintro e qb3 ⟨u45, rfl, hO45, eb3⟩
            have hYb3 := hYb2.trans eb3
            refine ⟨_, _, rfl, hYb3, (by simp only [Act.put, zzA, zz0, zzS]; rfl), ?_⟩
            refine tr_call (args := ?_) rfl Tryd.func32 (by kernel_rfl) rfl (by rfl) rfl rfl ?_ ?_
            rotate_left 1
            · go_simp; rfl
            (with_reducible refine (ctexts1 hO45.buf w.heap.size (Nat.le_trans hB (Ext.le hYb3)) (by decide) c.gr.p (b49.ext eb3) hf.gp).mono ?_)
            rintro e qb4 ⟨u50, rfl, hO50, eb4⟩
            have hYb4 := hYb3.trans eb4
            refine ⟨_, _, rfl, hYb4, (by simp only [Act.put, zzA, zz0, zzS]; rfl), ?_⟩
            (first | (refine tr_off (a' := ?_) rfl rfl (by rfl) ?_ ?_; rotate_left 1; (· simp only [Act.put, zzA, zz0, zzS]; rfl)) | (refine tr_y (v := ?_) (a' := ?_) rfl rfl (by rfl) (fun w' hw' => ?_) ?_ ?_; rotate_left 2; (· go_simp; with_reducible rfl); (· simp only [Act.put, zzA, zz0, zzS]; rfl)))
            refine tr_end ?_
            (refine NoPanic.normal ?_; exact key g44 g49 u45 u50 qb4 ⟨(hO50.re (by simp)).wide (by decide), hYb4⟩)
        · have b49 := Blk.new qb0 9 #[.string c.gr.p]
          have eb1 : Ext qb0 (qb0.alloc (.cells #[.string c.gr.p] 9)) := (Ext.refl _).alloc _
          have hYb1 := hYb0.trans eb1
          refine tr_value (v := ?_) (w1 := ?_) (a' := ?_) rfl rfl (by rfl) ?_ ?_ ?_ ?_
          rotate_left 3
          · go_simp; refine ⟨?_, ?_⟩ <;> with_reducible rfl
          · exact hYb1
          · simp only [Act.put, zzA, zz0, zzS]; rfl
          generalize qb0.alloc (.cells #[.string c.gr.p] 9) = qb1 at b49 eb1 hYb1 ⊢
          generalize qb0.heap.size = g49 at b49 ⊢
          have b44 := Blk.new qb1 3 #[.int .i64 c.fr, .int .i64 c.ct, .int .i64 c.gr.r]
          have eb2 : Ext qb1 (qb1.alloc (.cells #[.int .i64 c.fr, .int .i64 c.ct, .int .i64 c.gr.r] 3)) := (Ext.refl _).alloc _
          have hYb2 := hYb1.trans eb2
          refine tr_value (v := ?_) (w1 := ?_) (a' := ?_) rfl rfl (by rfl) ?_ ?_ ?_ ?_
          rotate_left 3
          · go_simp; refine ⟨?_, ?_⟩ <;> with_reducible rfl
          · exact hYb2
          · simp only [Act.put, zzA, zz0, zzS]; rfl
          generalize qb1.alloc (.cells #[.int .i64 c.fr, .int .i64 c.ct, .int .i64 c.gr.r] 3) = qb2 at b44 eb2 hYb2 ⊢
          generalize qb1.heap.size = g44 at b44 ⊢
          refine tr_call (args := ?_) rfl Tryd.func34 (by kernel_rfl) rfl (by rfl) rfl rfl ?_ ?_
          rotate_left 1
          · go_simp; rfl
          (with_reducible refine (cints3 (hOa.ext (eb0.trans (eb1.trans eb2))).buf w.heap.size (Nat.le_trans hB (Ext.le hYb2)) (by decide) c.fr c.ct c.gr.r b44 hf.fr hf.ct hf.gr).mono ?_)
          rintro e qb3 ⟨u45, rfl, hO45, eb3⟩
          have hYb3 := hYb2.trans eb3
          refine ⟨_, _, rfl, hYb3, (by simp only [Act.put, zzA, zz0, zzS]; rfl), ?_⟩
          refine tr_call (args := ?_) rfl Tryd.func32 (by kernel_rfl) rfl (by rfl) rfl rfl ?_ ?_
          rotate_left 1
          · go_simp; rfl
          (with_reducible refine (ctexts1 hO45.buf w.heap.size (Nat.le_trans hB (Ext.le hYb3)) (by decide) c.gr.p (b49.ext (eb2.trans eb3)) hf.gp).mono ?_)
          rintro e qb4 ⟨u50, rfl, hO50, eb4⟩
          have hYb4 := hYb3.trans eb4
          refine ⟨_, _, rfl, hYb4, (by simp only [Act.put, zzA, zz0, zzS]; rfl), ?_⟩
          (first | (refine tr_off (a' := ?_) rfl rfl (by rfl) ?_ ?_; rotate_left 1; (· simp only [Act.put, zzA, zz0, zzS]; rfl)) | (refine tr_y (v := ?_) (a' := ?_) rfl rfl (by rfl) (fun w' hw' => ?_) ?_ ?_; rotate_left 2; (· go_simp; with_reducible rfl); (· simp only [Act.put, zzA, zz0, zzS]; rfl)))
          refine tr_end ?_
          (refine NoPanic.normal ?_; exact key g44 g49 u45 u50 qb4 ⟨(hO50.re (by simp)).wide (by decide), hYb4⟩)
      intro g44 g49 u45 u50 wx2 hkey
      obtain ⟨hO9, hY9⟩ := hkey
      clear hOa
      have z45 := xr45 _ hY9
      have z46 := xr46 _ hY9
      have hlast := fun (w' : World) (g : Nat) (bk : Blk w' g 3 #[.int .i64 0, .int .i64 c.gr.u, .int .i64 c.id]) (e : Ext wx2 w') => cints3 (hO9.ext e).buf w.heap.size (Nat.le_trans hB (Nat.le_trans hY9.le e.le)) (by decide) 0 c.gr.u c.id bk (by decide) hf.gu hf.id
      go_wp2_with (go_at_call 34; (with_reducible refine (hlast _ _ (Blk.new _ _ _) ((Ext.refl _).alloc _)).mono ?_); rintro e w9 ⟨v9, rfl, hO99, hE9⟩)
      rw [← HP.out]
      refine ⟨fun h => absurd hz h, fun _ => ⟨v9, rfl, ?_⟩, hE.trans (hY9.trans (((Ext.refl _).alloc _).trans hE9))⟩
      exact (hO99.re (by simp [cmdB, gB, hgx, b2i])).wide (by decide)
    · rw [hgx] at xr44
      go_upto_region 7 with (first | (refine wpList_load_by rfl rfl ?_ l0 ?_; (· rfl)) | (go_at_call 7; (with_reducible refine (hck _ hE).mono ?_); rintro e w1 ⟨rfl, hE1⟩; have hq44 := xr44 _ hE1))
      clear l0 hck
      apply key6 (F := fun (g17 g26 : Nat) (u18 u21 u27 : Value) (wx : World) => OwnN w.heap.size 112500000 wx u27 (num8 c.kind ++ (tokB c.tok ++ (txtB c.st ++ txtB c.su))) ∧ Ext W wx)
      · intro key
        refine wp_region_noPanic ?_
        refine tr_start (.y 0 (.y 1 (.y 4 (.y 5 (.y 7 (.y 8 (.y 9 (.y 10 (.two 2 11 (.two 3 11 (.two 6 11 (.e 11 (.e 12 (.y 13 .nil))) (.e 6 (.e 12 (.y 13 .nil)))) (.e 3 (.e 6 (.e 12 (.y 13 .nil))))) (.e 2 (.e 3 (.e 6 (.e 12 (.y 13 .nil)))))))))))))) (fun w' => Ext W w') (by kernel_rfl) (by as_aux_lemma => kernel_rfl) (fun _ _ _ _ _ h => h) (by (repeat (first | assumption | exact Ext.refl _ | refine Ext.drew ?_ | refine Ext.alloc ?_ _ | refine Ext.drewN ?_ _ | refine Ext.trans ?_ (by assumption)))) ?_
        have e0 : Ext w1 w1.drew := (Ext.refl _).drew
        generalize w1.drew = q0 at e0 ⊢
        have hY0 := hE1.trans e0
        (first | (refine tr_off (a' := ?_) rfl rfl (by rfl) ?_ ?_; rotate_left 1; (· simp only [Act.put, zzA, zz0, zzS]; rfl)) | (refine tr_y (v := ?_) (a' := ?_) rfl rfl (by rfl) (fun w' hw' => ?_) ?_ ?_; rotate_left 2; (· go_simp; with_reducible rfl); (· simp only [Act.put, zzA, zz0, zzS]; rfl)))
        (first | (refine tr_off (a' := ?_) rfl rfl (by rfl) ?_ ?_; rotate_left 1; (· simp only [Act.put, zzA, zz0, zzS]; rfl)) | (refine tr_y (v := ?_) (a' := ?_) rfl rfl (by rfl) (fun w' hw' => ?_) ?_ ?_; rotate_left 2; (· go_simp; with_reducible rfl); (· simp only [Act.put, zzA, zz0, zzS]; rfl)))
        (first | (refine tr_off (a' := ?_) rfl rfl (by rfl) ?_ ?_; rotate_left 1; (· simp only [Act.put, zzA, zz0, zzS]; rfl)) | (refine tr_y (v := ?_) (a' := ?_) rfl rfl (by rfl) (fun w' hw' => ?_) ?_ ?_; rotate_left 2; (· go_simp; with_reducible rfl); (· simp only [Act.put, zzA, zz0, zzS]; rfl)))
        refine tr_y (v := ?_) (a' := ?_) rfl rfl (by rfl) (fun w' hw' => ?_) ?_ ?_
        rotate_left 2
        · (refine (run_op_load rfl ?_ (l1 w' hw')).trans ?_; (· rfl); (· with_reducible rfl))
        · simp only [Act.put, zzA, zz0, zzS]; rfl
        (first | (refine tr_off (a' := ?_) rfl rfl (by rfl) ?_ ?_; rotate_left 1; (· simp only [Act.put, zzA, zz0, zzS]; rfl)) | (refine tr_y (v := ?_) (a' := ?_) rfl rfl (by rfl) (fun w' hw' => ?_) ?_ ?_; rotate_left 2; (· go_simp; with_reducible rfl); (· simp only [Act.put, zzA, zz0, zzS]; rfl)))
        (first | (refine tr_off (a' := ?_) rfl rfl (by rfl) ?_ ?_; rotate_left 1; (· simp only [Act.put, zzA, zz0, zzS]; rfl)) | (refine tr_y (v := ?_) (a' := ?_) rfl rfl (by rfl) (fun w' hw' => ?_) ?_ ?_; rotate_left 2; (· go_simp; with_reducible rfl); (· simp only [Act.put, zzA, zz0, zzS]; rfl)))
        (first | (refine tr_off (a' := ?_) rfl rfl (by rfl) ?_ ?_; rotate_left 1; (· simp only [Act.put, zzA, zz0, zzS]; rfl)) | (refine tr_y (v := ?_) (a' := ?_) rfl rfl (by rfl) (fun w' hw' => ?_) ?_ ?_; rotate_left 2; (· go_simp; with_reducible rfl); (· simp only [Act.put, zzA, zz0, zzS]; rfl)))
        (first | (refine tr_off (a' := ?_) rfl rfl (by rfl) ?_ ?_; rotate_left 1; (· simp only [Act.put, zzA, zz0, zzS]; rfl)) | (refine tr_y (v := ?_) (a' := ?_) rfl rfl (by rfl) (fun w' hw' => ?_) ?_ ?_; rotate_left 2; (· go_simp; with_reducible rfl); (· simp only [Act.put, zzA, zz0, zzS]; rfl)))
        refine tr_two ?_ ?_
        · have b17 := Blk.new q0 3 #[.int .i64 c.kind]
          have e1 : Ext q0 (q0.alloc (.cells #[.int .i64 c.kind] 3)) := (Ext.refl _).alloc _
          have hY1 := hY0.trans e1
          refine tr_value (v := ?_) (w1 := ?_) (a' := ?_) rfl rfl (by rfl) ?_ ?_ ?_ ?_
          rotate_left 3
          · go_simp; refine ⟨?_, ?_⟩ <;> with_reducible rfl
          · exact hY1
          · simp only [Act.put, zzA, zz0, zzS]; rfl
          generalize q0.alloc (.cells #[.int .i64 c.kind] 3) = q1 at b17 e1 hY1 ⊢
          generalize q0.heap.size = g17 at b17 ⊢
          refine tr_two ?_ ?_
          · refine tr_call (args := ?_) rfl Tryd.func34 (by kernel_rfl) rfl (by rfl) rfl rfl ?_ ?_
            rotate_left 1
            · go_simp; rfl
            (with_reducible refine (cints1 (Buf.nil _) w.heap.size (Nat.le_trans hB (Ext.le hY1)) (by decide) c.kind b17 hf.kind).mono ?_)
            rintro e q2 ⟨u18, rfl, hO18, e2⟩
            have hY2 := hY1.trans e2
            refine ⟨_, _, rfl, hY2, (by simp only [Act.put, zzA, zz0, zzS]; rfl), ?_⟩
            refine tr_two ?_ ?_
            · refine tr_call (args := ?_) rfl Tryd.func33 (by kernel_rfl) rfl (by rfl) rfl rfl ?_ ?_
              rotate_left 1
              · go_simp; rfl
              (with_reducible refine (htp _ _ _ _ hO18.buf (by decide) hY2).mono ?_)
              rintro e q3 ⟨u21, rfl, hO21, e3⟩
              have hY3 := hY2.trans e3
              refine ⟨_, _, rfl, hY3, (by simp only [Act.put, zzA, zz0, zzS]; rfl), ?_⟩
              have b26 := Blk.new q3 9 #[.string c.st, .string c.su]
              have e4 : Ext q3 (q3.alloc (.cells #[.string c.st, .string c.su] 9)) := (Ext.refl _).alloc _
              have hY4 := hY3.trans e4
              refine tr_value (v := ?_) (w1 := ?_) (a' := ?_) rfl rfl (by rfl) ?_ ?_ ?_ ?_
              rotate_left 3
              · go_simp; refine ⟨?_, ?_⟩ <;> with_reducible rfl
              · exact hY4
              · simp only [Act.put, zzA, zz0, zzS]; rfl
              generalize q3.alloc (.cells #[.string c.st, .string c.su] 9) = q4 at b26 e4 hY4 ⊢
              generalize q3.heap.size = g26 at b26 ⊢
              refine tr_call (args := ?_) rfl Tryd.func32 (by kernel_rfl) rfl (by rfl) rfl rfl ?_ ?_
              rotate_left 1
              · go_simp; rfl
              (with_reducible refine (ctexts2 (hO21.ext e4).buf w.heap.size (Nat.le_trans hB (Ext.le hY4)) (by decide) c.st c.su b26 hf.st hf.su).mono ?_)
              rintro e q5 ⟨u27, rfl, hO27, e5⟩
              have hY5 := hY4.trans e5
              refine ⟨_, _, rfl, hY5, (by simp only [Act.put, zzA, zz0, zzS]; rfl), ?_⟩
              (first | (refine tr_off (a' := ?_) rfl rfl (by rfl) ?_ ?_; rotate_left 1; (· simp only [Act.put, zzA, zz0, zzS]; rfl)) | (refine tr_y (v := ?_) (a' := ?_) rfl rfl (by rfl) (fun w' hw' => ?_) ?_ ?_; rotate_left 2; (· go_simp; with_reducible rfl); (· simp only [Act.put, zzA, zz0, zzS]; rfl)))
              refine tr_end ?_
              (refine NoPanic.normal ?_; exact key g17 g26 u18 u21 u27 q5 ⟨(hO27.re (by simp)).wide (by decide), hY5⟩)
            · have b26 := Blk.new q2 9 #[.string c.st, .string c.su]
              have e3 : Ext q2 (q2.alloc (.cells #[.string c.st, .string c.su] 9)) := (Ext.refl _).alloc _
              have hY3 := hY2.trans e3
              refine tr_value (v := ?_) (w1 := ?_) (a' := ?_) rfl rfl (by rfl) ?_ ?_ ?_ ?_
              rotate_left 3
              · go_simp; refine ⟨?_, ?_⟩ <;> with_reducible rfl
              · exact hY3
              · simp only [Act.put, zzA, zz0, zzS]; rfl
              generalize q2.alloc (.cells #[.string c.st, .string c.su] 9) = q3 at b26 e3 hY3 ⊢
              generalize q2.heap.size = g26 at b26 ⊢
              refine tr_call (args := ?_) rfl Tryd.func33 (by kernel_rfl) rfl (by rfl) rfl rfl ?_ ?_
              rotate_left 1
              · go_simp; rfl
              (with_reducible refine (htp _ _ _ _ (hO18.ext e3).buf (by decide) hY3).mono ?_)
              rintro e q4 ⟨u21, rfl, hO21, e4⟩
              have hY4 := hY3.trans e4
              refine ⟨_, _, rfl, hY4, (by simp only [Act.put, zzA, zz0, zzS]; rfl), ?_⟩
              refine tr_call (args := ?_) rfl Tryd.func32 (by kernel_rfl) rfl (by rfl) rfl rfl ?_ ?_
              rotate_left 1
              · go_simp; rfl
              (with_reducible refine (ctexts2 hO21.buf w.heap.size (Nat.le_trans hB (Ext.le hY4)) (by decide) c.st c.su (b26.ext e4) hf.st hf.su).mono ?_)
              rintro e q5 ⟨u27, rfl, hO27, e5⟩
              have hY5 := hY4.trans e5
              refine ⟨_, _, rfl, hY5, (by simp only [Act.put, zzA, zz0, zzS]; rfl), ?_⟩
              (first | (refine tr_off (a' := ?_) rfl rfl (by rfl) ?_ ?_; rotate_left 1; (· simp only [Act.put, zzA, zz0, zzS]; rfl)) | (refine tr_y (v := ?_) (a' := ?_) rfl rfl (by rfl) (fun w' hw' => ?_) ?_ ?_; rotate_left 2; (· go_simp; with_reducible rfl); (· simp only [Act.put, zzA, zz0, zzS]; rfl)))
              refine tr_end ?_
              (refine NoPanic.normal ?_; exact key g17 g26 u18 u21 u27 q5 ⟨(hO27.re (by simp)).wide (by decide), hY5⟩)
          · have b26 := Blk.new q1 9 #[.string c.st, .string c.su]
            have e2 : Ext q1 (q1.alloc (.cells #[.string c.st, .string c.su] 9)) := (Ext.refl _).alloc _
            have hY2 := hY1.trans e2
            refine tr_value (v := ?_) (w1 := ?_) (a' := ?_) rfl rfl (by rfl) ?_ ?_ ?_ ?_
            rotate_left 3
            · go_simp; refine ⟨?_, ?_⟩ <;> with_reducible rfl
            · exact hY2
            · simp only [Act.put, zzA, zz0, zzS]; rfl
            generalize q1.alloc (.cells #[.string c.st, .string c.su] 9) = q2 at b26 e2 hY2 ⊢
            generalize q1.heap.size = g26 at b26 ⊢
            refine tr_call (args := ?_) rfl Tryd.func34 (by kernel_rfl) rfl (by rfl) rfl rfl ?_ ?_
            rotate_left 1
            · go_simp; rfl
            (with_reducible refine (cints1 (Buf.nil _) w.heap.size (Nat.le_trans hB (Ext.le hY2)) (by decide) c.kind (b17.ext e2) hf.kind).mono ?_)
            rintro e q3 ⟨u18, rfl, hO18, e3⟩
            have hY3 := hY2.trans e3
            refine ⟨_, _, rfl, hY3, (by simp only [Act.put, zzA, zz0, zzS]; rfl), ?_⟩
            refine tr_call (args := ?_) rfl Tryd.func33 (by kernel_rfl) rfl (by rfl) rfl rfl ?_ ?_
            rotate_left 1
            · go_simp; rfl
            (with_reducible refine (htp _ _ _ _ hO18.buf (by decide) hY3).mono ?_)
            rintro e q4 ⟨u21, rfl, hO21, e4⟩
            have hY4 := hY3.trans e4
            refine ⟨_, _, rfl, hY4, (by simp only [Act.put, zzA, zz0, zzS]; rfl), ?_⟩
            refine tr_call (args := ?_) rfl Tryd.func32 (by kernel_rfl) rfl (by rfl) rfl rfl ?_ ?_
            rotate_left 1
            · go_simp; rfl
            (with_reducible refine (ctexts2 hO21.buf w.heap.size (Nat.le_trans hB (Ext.le hY4)) (by decide) c.st c.su (b26.ext (e3.trans e4)) hf.st hf.su).mono ?_)
            rintro e q5 ⟨u27, rfl, hO27, e5⟩
            have hY5 := hY4.trans e5
            refine ⟨_, _, rfl, hY5, (by simp only [Act.put, zzA, zz0, zzS]; rfl), ?_⟩
            (first | (refine tr_off (a' := ?_) rfl rfl (by rfl) ?_ ?_; rotate_left 1; (· simp only [Act.put, zzA, zz0, zzS]; rfl)) | (refine tr_y (v := ?_) (a' := ?_) rfl rfl (by rfl) (fun w' hw' => ?_) ?_ ?_; rotate_left 2; (· go_simp; with_reducible rfl); (· simp only [Act.put, zzA, zz0, zzS]; rfl)))
            refine tr_end ?_
            (refine NoPanic.normal ?_; exact key g17 g26 u18 u21 u27 q5 ⟨(hO27.re (by simp)).wide (by decide), hY5⟩)
        · have b26 := Blk.new q0 9 #[.string c.st, .string c.su]
          have e1 : Ext q0 (q0.alloc (.cells #[.string c.st, .string c.su] 9)) := (Ext.refl _).alloc _
          have hY1 := hY0.trans e1
          refine tr_value (v := ?_) (w1 := ?_) (a' := ?_) rfl rfl (by rfl) ?_ ?_ ?_ ?_
          rotate_left 3
          · go_simp; refine ⟨?_, ?_⟩ <;> with_reducible rfl
          · exact hY1
          · simp only [Act.put, zzA, zz0, zzS]; rfl
          generalize q0.alloc (.cells #[.string c.st, .string c.su] 9) = q1 at b26 e1 hY1 ⊢
          generalize q0.heap.size = g26 at b26 ⊢
          have b17 := Blk.new q1 3 #[.int .i64 c.kind]
          have e2 : Ext q1 (q1.alloc (.cells #[.int .i64 c.kind] 3)) := (Ext.refl _).alloc _
          have hY2 := hY1.trans e2
          refine tr_value (v := ?_) (w1 := ?_) (a' := ?_) rfl rfl (by rfl) ?_ ?_ ?_ ?_
          rotate_left 3
          · go_simp; refine ⟨?_, ?_⟩ <;> with_reducible rfl
          · exact hY2
          · simp only [Act.put, zzA, zz0, zzS]; rfl
          generalize q1.alloc (.cells #[.int .i64 c.kind] 3) = q2 at b17 e2 hY2 ⊢
          generalize q1.heap.size = g17 at b17 ⊢
          refine tr_call (args := ?_) rfl Tryd.func34 (by kernel_rfl) rfl (by rfl) rfl rfl ?_ ?_
          rotate_left 1
          · go_simp; rfl
          (with_reducible refine (cints1 (Buf.nil _) w.heap.size (Nat.le_trans hB (Ext.le hY2)) (by decide) c.kind b17 hf.kind).mono ?_)
          rintro e q3 ⟨u18, rfl, hO18, e3⟩
          have hY3 := hY2.trans e3
          refine ⟨_, _, rfl, hY3, (by simp only [Act.put, zzA, zz0, zzS]; rfl), ?_⟩
          refine tr_call (args := ?_) rfl Tryd.func33 (by kernel_rfl) rfl (by rfl) rfl rfl ?_ ?_
          rotate_left 1
          · go_simp; rfl
          (with_reducible refine (htp _ _ _ _ hO18.buf (by decide) hY3).mono ?_)
          rintro e q4 ⟨u21, rfl, hO21, e4⟩
          have hY4 := hY3.trans e4
          refine ⟨_, _, rfl, hY4, (by simp only [Act.put, zzA, zz0, zzS]; rfl), ?_⟩
          refine tr_call (args := ?_) rfl Tryd.func32 (by kernel_rfl) rfl (by rfl) rfl rfl ?_ ?_
          rotate_left 1
          · go_simp; rfl
          (with_reducible refine (ctexts2 hO21.buf w.heap.size (Nat.le_trans hB (Ext.le hY4)) (by decide) c.st c.su (b26.ext (e2.trans (e3.trans e4))) hf.st hf.su).mono ?_)
          rintro e q5 ⟨u27, rfl, hO27, e5⟩
          have hY5 := hY4.trans e5
          refine ⟨_, _, rfl, hY5, (by simp only [Act.put, zzA, zz0, zzS]; rfl), ?_⟩
          (first | (refine tr_off (a' := ?_) rfl rfl (by rfl) ?_ ?_; rotate_left 1; (· simp only [Act.put, zzA, zz0, zzS]; rfl)) | (refine tr_y (v := ?_) (a' := ?_) rfl rfl (by rfl) (fun w' hw' => ?_) ?_ ?_; rotate_left 2; (· go_simp; with_reducible rfl); (· simp only [Act.put, zzA, zz0, zzS]; rfl)))
          refine tr_end ?_
          (refine NoPanic.normal ?_; exact key g17 g26 u18 u21 u27 q5 ⟨(hO27.re (by simp)).wide (by decide), hY5⟩)
      intro g17 g26 u18 u21 u27 wx hkey
      obtain ⟨hO7, hY7⟩ := hkey
      go_upto_region 8 with fail
      refine wp_region_noPanic ?_
      refine tr_start (.y 0 (.y 1 (.y 2 (.y 5 (.y 6 (.e 3 (.e 4 (.e 7 (.y 8 .nil))))))))) (fun w' => Ext W w') (by kernel_rfl) (by as_aux_lemma => kernel_rfl) (fun _ _ _ _ _ h => h) (by (repeat (first | assumption | exact Ext.refl _ | refine Ext.drew ?_ | refine Ext.alloc ?_ _ | refine Ext.drewN ?_ _ | refine Ext.trans ?_ (by assumption)))) ?_
      have ea0 : Ext wx wx.drew := (Ext.refl _).drew
      generalize wx.drew = qa0 at ea0 ⊢
      have hYa0 := hY7.trans ea0
      (first | (refine tr_off (a' := ?_) rfl rfl (by rfl) ?_ ?_; rotate_left 1; (· simp only [Act.put, zzA, zz0, zzS]; rfl)) | (refine tr_y (v := ?_) (a' := ?_) rfl rfl (by rfl) (fun w' hw' => ?_) ?_ ?_; rotate_left 2; (· go_simp; with_reducible rfl); (· simp only [Act.put, zzA, zz0, zzS]; rfl)))
      (first | (refine tr_off (a' := ?_) rfl rfl (by rfl) ?_ ?_; rotate_left 1; (· simp only [Act.put, zzA, zz0, zzS]; rfl)) | (refine tr_y (v := ?_) (a' := ?_) rfl rfl (by rfl) (fun w' hw' => ?_) ?_ ?_; rotate_left 2; (· go_simp; with_reducible rfl); (· simp only [Act.put, zzA, zz0, zzS]; rfl)))
      (first | (refine tr_off (a' := ?_) rfl rfl (by rfl) ?_ ?_; rotate_left 1; (· simp only [Act.put, zzA, zz0, zzS]; rfl)) | (refine tr_y (v := ?_) (a' := ?_) rfl rfl (by rfl) (fun w' hw' => ?_) ?_ ?_; rotate_left 2; (· go_simp; with_reducible rfl); (· simp only [Act.put, zzA, zz0, zzS]; rfl)))
      (first | (refine tr_off (a' := ?_) rfl rfl (by rfl) ?_ ?_; rotate_left 1; (· simp only [Act.put, zzA, zz0, zzS]; rfl)) | (refine tr_y (v := ?_) (a' := ?_) rfl rfl (by rfl) (fun w' hw' => ?_) ?_ ?_; rotate_left 2; (· go_simp; with_reducible rfl); (· simp only [Act.put, zzA, zz0, zzS]; rfl)))
      (first | (refine tr_off (a' := ?_) rfl rfl (by rfl) ?_ ?_; rotate_left 1; (· simp only [Act.put, zzA, zz0, zzS]; rfl)) | (refine tr_y (v := ?_) (a' := ?_) rfl rfl (by rfl) (fun w' hw' => ?_) ?_ ?_; rotate_left 2; (· go_simp; with_reducible rfl); (· simp only [Act.put, zzA, zz0, zzS]; rfl)))
      have b31 := Blk.new qa0 3 #[.int .i64 c.ex]
      have ea1 : Ext qa0 (qa0.alloc (.cells #[.int .i64 c.ex] 3)) := (Ext.refl _).alloc _
      have hYa1 := hYa0.trans ea1
      refine tr_value (v := ?_) (w1 := ?_) (a' := ?_) rfl rfl (by rfl) ?_ ?_ ?_ ?_
      rotate_left 3
      · go_simp; refine ⟨?_, ?_⟩ <;> with_reducible rfl
      · exact hYa1
      · simp only [Act.put, zzA, zz0, zzS]; rfl
      generalize qa0.alloc (.cells #[.int .i64 c.ex] 3) = qa1 at b31 ea1 hYa1 ⊢
      generalize qa0.heap.size = g31 at b31 ⊢
      refine tr_call (args := ?_) rfl Tryd.func34 (by kernel_rfl) rfl (by rfl) rfl rfl ?_ ?_
      rotate_left 1
      · go_simp; rfl
      (with_reducible refine (cints1 (hO7.ext (ea0.trans ea1)).buf w.heap.size (Nat.le_trans hB (Ext.le hYa1)) (by decide) c.ex b31 hf.ex).mono ?_)
      rintro e qa2 ⟨u32, rfl, hO32, ea2⟩
      have hYa2 := hYa1.trans ea2
      refine ⟨_, _, rfl, hYa2, (by simp only [Act.put, zzA, zz0, zzS]; rfl), ?_⟩
      refine tr_call (args := ?_) rfl Tryd.func35 (by kernel_rfl) rfl (by rfl) rfl rfl ?_ ?_
      rotate_left 1
      · go_simp; rfl
      (with_reducible refine (rowsB_any hO32.buf w.heap.size (Nat.le_trans hB (Ext.le hYa2)) (by decide) c.bodies b (hDW _ hYa2) hf.m hf.x).mono ?_)
      rintro e qa3 ⟨u35, rfl, hO35, ea3⟩
      have hYa3 := hYa2.trans ea3
      refine ⟨_, _, rfl, hYa3, (by simp only [Act.put, zzA, zz0, zzS]; rfl), ?_⟩
      (first | (refine tr_off (a' := ?_) rfl rfl (by rfl) ?_ ?_; rotate_left 1; (· simp only [Act.put, zzA, zz0, zzS]; rfl)) | (refine tr_y (v := ?_) (a' := ?_) rfl rfl (by rfl) (fun w' hw' => ?_) ?_ ?_; rotate_left 2; (· go_simp; with_reducible rfl); (· simp only [Act.put, zzA, zz0, zzS]; rfl)))
      refine tr_end ?_
      refine NoPanic.normal ?_
      have hOa := (hO35.re (L' := num8 c.kind ++ (tokB c.tok ++ (txtB c.st ++ (txtB c.su ++ (num8 c.ex ++ (num8 c.bodies.length ++ c.bodies.flatMap blobB)))))) (by simp)).wide (N' := 220000000) (by decide)
      clear hO7 hO32 hO35 b31
      generalize qa3 = wy at *
      go_upto_region 9 with fail
      apply key5 (F := fun (g44 g49 : Nat) (u45 u50 : Value) (wx : World) => OwnN w.heap.size 222000000 wx u50 (num8 c.kind ++ (tokB c.tok ++ (txtB c.st ++ (txtB c.su ++ (num8 c.ex ++ ((num8 c.bodies.length ++ c.bodies.flatMap blobB) ++ (num8 c.fr ++ (num8 c.ct ++ (num8 c.gr.r ++ txtB c.gr.p))))))))) ∧ Ext W wx)
      · intro key
        refine wp_region_noPanic ?_
        refine tr_start (.y 0 (.y 1 (.y 2 (.y 3 (.y 4 (.y 5 (.y 6 (.y 7 (.y 10 (.y 11 (.y 12 (.two 8 13 (.two 9 13 (.e 13 (.e 14 (.y 15 .nil))) (.e 9 (.e 14 (.y 15 .nil)))) (.e 8 (.e 9 (.e 14 (.y 15 .nil)))))))))))))))) (fun w' => Ext W w') (by kernel_rfl) (by as_aux_lemma => kernel_rfl) (fun _ _ _ _ _ h => h) (by (repeat (first | assumption | exact Ext.refl _ | refine Ext.drew ?_ | refine Ext.alloc ?_ _ | refine Ext.drewN ?_ _ | refine Ext.trans ?_ (by assumption)))) ?_
        have eb0 : Ext wy wy.drew := (Ext.refl _).drew
        generalize wy.drew = qb0 at eb0 ⊢
        have hYb0 := hYa3.trans eb0
        (first | (refine tr_off (a' := ?_) rfl rfl (by rfl) ?_ ?_; rotate_left 1; (· simp only [Act.put, zzA, zz0, zzS]; rfl)) | (refine tr_y (v := ?_) (a' := ?_) rfl rfl (by rfl) (fun w' hw' => ?_) ?_ ?_; rotate_left 2; (· go_simp; with_reducible rfl); (· simp only [Act.put, zzA, zz0, zzS]; rfl)))
        (first | (refine tr_off (a' := ?_) rfl rfl (by rfl) ?_ ?_; rotate_left 1; (· simp only [Act.put, zzA, zz0, zzS]; rfl)) | (refine tr_y (v := ?_) (a' := ?_) rfl rfl (by rfl) (fun w' hw' => ?_) ?_ ?_; rotate_left 2; (· go_simp; with_reducible rfl); (· simp only [Act.put, zzA, zz0, zzS]; rfl)))
        (first | (refine tr_off (a' := ?_) rfl rfl (by rfl) ?_ ?_; rotate_left 1; (· simp only [Act.put, zzA, zz0, zzS]; rfl)) | (refine tr_y (v := ?_) (a' := ?_) rfl rfl (by rfl) (fun w' hw' => ?_) ?_ ?_; rotate_left 2; (· go_simp; with_reducible rfl); (· simp only [Act.put, zzA, zz0, zzS]; rfl)))
        (first | (refine tr_off (a' := ?_) rfl rfl (by rfl) ?_ ?_; rotate_left 1; (· simp only [Act.put, zzA, zz0, zzS]; rfl)) | (refine tr_y (v := ?_) (a' := ?_) rfl rfl (by rfl) (fun w' hw' => ?_) ?_ ?_; rotate_left 2; (· go_simp; with_reducible rfl); (· simp only [Act.put, zzA, zz0, zzS]; rfl)))
        (first | (refine tr_off (a' := ?_) rfl rfl (by rfl) ?_ ?_; rotate_left 1; (· simp only [Act.put, zzA, zz0, zzS]; rfl)) | (refine tr_y (v := ?_) (a' := ?_) rfl rfl (by rfl) (fun w' hw' => ?_) ?_ ?_; rotate_left 2; (· go_simp; with_reducible rfl); (· simp only [Act.put, zzA, zz0, zzS]; rfl)))
        (first | (refine tr_off (a' := ?_) rfl rfl (by rfl) ?_ ?_; rotate_left 1; (· simp only [Act.put, zzA, zz0, zzS]; rfl)) | (refine tr_y (v := ?_) (a' := ?_) rfl rfl (by rfl) (fun w' hw' => ?_) ?_ ?_; rotate_left 2; (· go_simp; with_reducible rfl); (· simp only [Act.put, zzA, zz0, zzS]; rfl)))
        (first | (refine tr_off (a' := ?_) rfl rfl (by rfl) ?_ ?_; rotate_left 1; (· simp only [Act.put, zzA, zz0, zzS]; rfl)) | (refine tr_y (v := ?_) (a' := ?_) rfl rfl (by rfl) (fun w' hw' => ?_) ?_ ?_; rotate_left 2; (· go_simp; with_reducible rfl); (· simp only [Act.put, zzA, zz0, zzS]; rfl)))
        (first | (refine tr_off (a' := ?_) rfl rfl (by rfl) ?_ ?_; rotate_left 1; (· simp only [Act.put, zzA, zz0, zzS]; rfl)) | (refine tr_y (v := ?_) (a' := ?_) rfl rfl (by rfl) (fun w' hw' => ?_) ?_ ?_; rotate_left 2; (· go_simp; with_reducible rfl); (· simp only [Act.put, zzA, zz0, zzS]; rfl)))
        (first | (refine tr_off (a' := ?_) rfl rfl (by rfl) ?_ ?_; rotate_left 1; (· simp only [Act.put, zzA, zz0, zzS]; rfl)) | (refine tr_y (v := ?_) (a' := ?_) rfl rfl (by rfl) (fun w' hw' => ?_) ?_ ?_; rotate_left 2; (· go_simp; with_reducible rfl); (· simp only [Act.put, zzA, zz0, zzS]; rfl)))
        (first | (refine tr_off (a' := ?_) rfl rfl (by rfl) ?_ ?_; rotate_left 1; (· simp only [Act.put, zzA, zz0, zzS]; rfl)) | (refine tr_y (v := ?_) (a' := ?_) rfl rfl (by rfl) (fun w' hw' => ?_) ?_ ?_; rotate_left 2; (· go_simp; with_reducible rfl); (· simp only [Act.put, zzA, zz0, zzS]; rfl)))
        (first | (refine tr_off (a' := ?_) rfl rfl (by rfl) ?_ ?_; rotate_left 1; (· simp only [Act.put, zzA, zz0, zzS]; rfl)) | (refine tr_y (v := ?_) (a' := ?_) rfl rfl (by rfl) (fun w' hw' => ?_) ?_ ?_; rotate_left 2; (· go_simp; with_reducible rfl); (· simp only [Act.put, zzA, zz0, zzS]; rfl)))
        refine tr_two ?_ ?_
        · have b44 := Blk.new qb0 3 #[.int .i64 c.fr, .int .i64 c.ct, .int .i64 c.gr.r]
          have eb1 : Ext qb0 (qb0.alloc (.cells #[.int .i64 c.fr, .int .i64 c.ct, .int .i64 c.gr.r] 3)) := (Ext.refl _).alloc _
          have hYb1 := hYb0.trans eb1
          refine tr_value (v := ?_) (w1 := ?_) (a' := ?_) rfl rfl (by rfl) ?_ ?_ ?_ ?_
          rotate_left 3
          · go_simp; refine ⟨?_, ?_⟩ <;> with_reducible rfl
          · exact hYb1
          · simp only [Act.put, zzA, zz0, zzS]; rfl
          generalize qb0.alloc (.cells #[.int .i64 c.fr, .int .i64 c.ct, .int .i64 c.gr.r] 3) = qb1 at b44 eb1 hYb1 ⊢
          generalize qb0.heap.size = g44 at b44 ⊢
          refine tr_two ?_ ?_
          · refine tr_call (args := ?_) rfl Tryd.func34 (by kernel_rfl) rfl (by rfl) rfl rfl ?_ ?_
            rotate_left 1
            · go_simp; rfl
            (with_reducible refine (cints3 (hOa.ext (eb0.trans eb1)).buf w.heap.size (Nat.le_trans hB (Ext.le hYb1)) (by decide) c.fr c.ct c.gr.r b44 hf.fr hf.ct hf.gr).mono ?_)
            rintro e qb2 ⟨u45, rfl, hO45, eb2⟩
            have hYb2 := hYb1.trans eb2
            refine ⟨_, _, rfl, hYb2, (by simp only [Act.put, zzA, zz0, zzS]; rfl), ?_⟩
            have b49 := Blk.new qb2 9 #[.string c.gr.p]
            have eb3 : Ext qb2 (qb2.alloc (.cells #[.string c.gr.p] 9)) := (Ext.refl _).alloc _
            have hYb3 := hYb2.trans eb3
            refine tr_value (v := ?_) (w1 := ?_) (a' := ?_) rfl rfl (by rfl) ?_ ?_ ?_ ?_
            rotate_left 3
            · go_simp; refine ⟨?_, ?_⟩ <;> with_reducible rfl
            · exact hYb3
            · simp only [Act.put, zzA, zz0, zzS]; rfl
            generalize qb2.alloc (.cells #[.string c.gr.p] 9) = qb3 at b49 eb3 hYb3 ⊢
            generalize qb2.heap.size = g49 at b49 ⊢
            refine tr_call (args := ?_) rfl Tryd.func32 (by kernel_rfl) rfl (by rfl) rfl rfl ?_ ?_
            rotate_left 1
            · go_simp; rfl
            (with_reducible refine (ctexts1 (hO45.ext eb3).buf w.heap.size (Nat.le_trans hB (Ext.le hYb3)) (by decide) c.gr.p b49 hf.gp).mono ?_)
            rintro e qb4 ⟨u50, rfl, hO50, eb4⟩
            have hYb4 := hYb3.trans eb4
            refine ⟨_, _, rfl, hYb4, (by simp only [Act.put, zzA, zz0, zzS]; rfl), ?_⟩
            (first | (refine tr_off (a' := ?_) rfl rfl (by rfl) ?_ ?_; rotate_left 1; (· simp only [Act.put, zzA, zz0, zzS]; rfl)) | (refine tr_y (v := ?_) (a' := ?_) rfl rfl (by rfl) (fun w' hw' => ?_) ?_ ?_; rotate_left 2; (· go_simp; with_reducible rfl); (· simp only [Act.put, zzA, zz0, zzS]; rfl)))
            refine tr_end ?_
            (refine NoPanic.normal ?_; exact key g44 g49 u45 u50 qb4 ⟨(hO50.re (by simp)).wide (by decide), hYb4⟩)
          · have b49 := Blk.new qb1 9 #[.string c.gr.p]
            have eb2 : Ext qb1 (qb1.alloc (.cells #[.string c.gr.p] 9)) := (Ext.refl _).alloc _
            have hYb2 := hYb1.trans eb2
            refine tr_value (v := ?_) (w1 := ?_) (a' := ?_) rfl rfl (by rfl) ?_ ?_ ?_ ?_
            rotate_left 3
            · go_simp; refine ⟨?_, ?_⟩ <;> with_reducible rfl
            · exact hYb2
            · simp only [Act.put, zzA, zz0, zzS]; rfl
            generalize qb1.alloc (.cells #[.string c.gr.p] 9) = qb2 at b49 eb2 hYb2 ⊢
            generalize qb1.heap.size = g49 at b49 ⊢
            refine tr_call (args := ?_) rfl Tryd.func34 (by kernel_rfl) rfl (by rfl) rfl rfl ?_ ?_
            rotate_left 1
            · go_simp; rfl
            (with_reducible refine (cints3 (hOa.ext (eb0.trans (eb1.trans eb2))).buf w.heap.size (Nat.le_trans hB (Ext.le hYb2)) (by decide) c.fr c.ct c.gr.r (b44.ext eb2) hf.fr hf.ct hf.gr).mono ?_)
            rintro e qb3 ⟨u45, rfl, hO45, eb3⟩
            have hYb3 := hYb2.trans eb3
            refine ⟨_, _, rfl, hYb3, (by simp only [Act.put, zzA, zz0, zzS]; rfl), ?_⟩
            refine tr_call (args := ?_) rfl Tryd.func32 (by kernel_rfl) rfl (by rfl) rfl rfl ?_ ?_
            rotate_left 1
            · go_simp; rfl
            (with_reducible refine (ctexts1 hO45.buf w.heap.size (Nat.le_trans hB (Ext.le hYb3)) (by decide) c.gr.p (b49.ext eb3) hf.gp).mono ?_)
            rintro e qb4 ⟨u50, rfl, hO50, eb4⟩
            have hYb4 := hYb3.trans eb4
            refine ⟨_, _, rfl, hYb4, (by simp only [Act.put, zzA, zz0, zzS]; rfl), ?_⟩
            (first | (refine tr_off (a' := ?_) rfl rfl (by rfl) ?_ ?_; rotate_left 1; (· simp only [Act.put, zzA, zz0, zzS]; rfl)) | (refine tr_y (v := ?_) (a' := ?_) rfl rfl (by rfl) (fun w' hw' => ?_) ?_ ?_; rotate_left 2; (· go_simp; with_reducible rfl); (· simp only [Act.put, zzA, zz0, zzS]; rfl)))
            refine tr_end ?_
            (refine NoPanic.normal ?_; exact key g44 g49 u45 u50 qb4 ⟨(hO50.re (by simp)).wide (by decide), hYb4⟩)
        · have b49 := Blk.new qb0 9 #[.string c.gr.p]
          have eb1 : Ext qb0 (qb0.alloc (.cells #[.string c.gr.p] 9)) := (Ext.refl _).alloc _
          have hYb1 := hYb0.trans eb1
          refine tr_value (v := ?_) (w1 := ?_) (a' := ?_) rfl rfl (by rfl) ?_ ?_ ?_ ?_
          rotate_left 3
          · go_simp; refine ⟨?_, ?_⟩ <;> with_reducible rfl
          · exact hYb1
          · simp only [Act.put, zzA, zz0, zzS]; rfl
          generalize qb0.alloc (.cells #[.string c.gr.p] 9) = qb1 at b49 eb1 hYb1 ⊢
          generalize qb0.heap.size = g49 at b49 ⊢
          have b44 := Blk.new qb1 3 #[.int .i64 c.fr, .int .i64 c.ct, .int .i64 c.gr.r]
          have eb2 : Ext qb1 (qb1.alloc (.cells #[.int .i64 c.fr, .int .i64 c.ct, .int .i64 c.gr.r] 3)) := (Ext.refl _).alloc _
          have hYb2 := hYb1.trans eb2
          refine tr_value (v := ?_) (w1 := ?_) (a' := ?_) rfl rfl (by rfl) ?_ ?_ ?_ ?_
          rotate_left 3
          · go_simp; refine ⟨?_, ?_⟩ <;> with_reducible rfl
          · exact hYb2
          · simp only [Act.put, zzA, zz0, zzS]; rfl
          generalize qb1.alloc (.cells #[.int .i64 c.fr, .int .i64 c.ct, .int .i64 c.gr.r] 3) = qb2 at b44 eb2 hYb2 ⊢
          generalize qb1.heap.size = g44 at b44 ⊢
          refine tr_call (args := ?_) rfl Tryd.func34 (by kernel_rfl) rfl (by rfl) rfl rfl ?_ ?_
          rotate_left 1
          · go_simp; rfl
          (with_reducible refine (cints3 (hOa.ext (eb0.trans (eb1.trans eb2))).buf w.heap.size (Nat.le_trans hB (Ext.le hYb2)) (by decide) c.fr c.ct c.gr.r b44 hf.fr hf.ct hf.gr).mono ?_)
          rintro e qb3 ⟨u45, rfl, hO45, eb3⟩
          have hYb3 := hYb2.trans eb3
          refine ⟨_, _, rfl, hYb3, (by simp only [Act.put, zzA, zz0, zzS]; rfl), ?_⟩
          refine tr_call (args := ?_) rfl Tryd.func32 (by kernel_rfl) rfl (by rfl) rfl rfl ?_ ?_
          rotate_left 1
          · go_simp; rfl
          (with_reducible refine (ctexts1 hO45.buf w.heap.size (Nat.le_trans hB (Ext.le hYb3)) (by decide) c.gr.p (b49.ext (eb2.trans eb3)) hf.gp).mono ?_)
          rintro e qb4 ⟨u50, rfl, hO50, eb4⟩
          have hYb4 := hYb3.trans eb4
          refine ⟨_, _, rfl, hYb4, (by simp only [Act.put, zzA, zz0, zzS]; rfl), ?_⟩
          (first | (refine tr_off (a' := ?_) rfl rfl (by rfl) ?_ ?_; rotate_left 1; (· simp only [Act.put, zzA, zz0, zzS]; rfl)) | (refine tr_y (v := ?_) (a' := ?_) rfl rfl (by rfl) (fun w' hw' => ?_) ?_ ?_; rotate_left 2; (· go_simp; with_reducible rfl); (· simp only [Act.put, zzA, zz0, zzS]; rfl)))
          refine tr_end ?_
          (refine NoPanic.normal ?_; exact key g44 g49 u45 u50 qb4 ⟨(hO50.re (by simp)).wide (by decide), hYb4⟩)
      intro g44 g49 u45 u50 wx2 hkey
      obtain ⟨hO9, hY9⟩ := hkey
      clear hOa
      have z45 := xr45 _ hY9
      have z46 := xr46 _ hY9
      have hlast := fun (w' : World) (g : Nat) (bk : Blk w' g 3 #[.int .i64 1, .int .i64 c.gr.u, .int .i64 c.id]) (e : Ext wx2 w') => cints3 (hO9.ext e).buf w.heap.size (Nat.le_trans hB (Nat.le_trans hY9.le e.le)) (by decide) 1 c.gr.u c.id bk (by decide) hf.gu hf.id
      go_wp2_with (go_at_call 34; (with_reducible refine (hlast _ _ (Blk.new _ _ _) ((Ext.refl _).alloc _)).mono ?_); rintro e w9 ⟨v9, rfl, hO99, hE9⟩)
      rw [← HP.out]
      refine ⟨fun h => absurd hz h, fun _ => ⟨v9, rfl, ?_⟩, hE.trans (hY9.trans (((Ext.refl _).alloc _).trans hE9))⟩
      exact (hO99.re (by simp [cmdB, gB, hgx, b2i])).wide (by decide)
  · have h0' : (v != 0) = true := by simpa using h0
    go_enter Tryd.func11, Tryd.ntmps11
    go_upto_region 1 with fail
    rw [← hW]
    clear hW
    go_wp2_with (first | (refine wpList_load_by rfl rfl ?_ l0 ?_; (· rfl)) | (go_at_call 7; (with_reducible refine (hck _ hE).mono ?_); rintro e w1 ⟨rfl, hE1⟩))
    rw [← HP.out]
    exact ⟨fun _ => by rw [HV.out]; rfl, fun h => absurd (HV.out.symm.trans h) h0, hE.trans hE1⟩
end Go.Proofs.YtgfhbachgniipaaDoor

namespace Go.Proofs.YtgfhbachgniipaaDoor
open Go.RowKit
theorem cints5 {N : Nat} {w : World} {v : Value} {L : List UInt8} {g : Nat} (h : Buf N w v L) (B : Nat) (hB : B ≤ w.heap.size) (hN : N ≤ 900000000) (x1 x2 x3 x4 x5 : Int) (b : Blk w g 3 #[.int .i64 x1, .int .i64 x2, .int .i64 x3, .int .i64 x4, .int .i64 x5]) (h1 : intOk x1) (h2 : intOk x2) (h3 : intOk x3) (h4 : intOk x4) (h5 : intOk x5) : Calls Tryd.prog 34 #[v, .slice (some ⟨g, 0, none⟩) 5 5] w fun e w' => ∃ u, e = .returned u ∧ OwnN B (N + 40) w' u (L ++ (num8 x1 ++ (num8 x2 ++ (num8 x3 ++ (num8 x4 ++ num8 x5))))) ∧ Ext w w' := by
  have := cintsL h B hB _ 5 [x1, x2, x3, x4, x5] (ints_sl [x1, x2, x3, x4, x5] b) (Nat.le_refl _) (by simp) (by simp) (fun q hq => by simp at hq; rcases hq with rfl | rfl | rfl | rfl | rfl <;> assumption) hN
  simpa [numsB] using this
structure ShFit (x : Shn) : Prop where
  st : x.st.size ≤ 1048576
  su : x.su.size ≤ 1048576
  ver : intOk x.ver
  pos : intOk x.pos
  code : intOk x.code
  body : x.body.length ≤ 1048576
structure EnFit (x : Ent) : Prop where
  no : intOk x.no
  clock : intOk x.clock
  kind : intOk x.kind
  code : intOk x.code
  id : intOk x.id
  st : x.st.size ≤ 1048576
  su : x.su.size ≤ 1048576
  sum : x.sum.length = 32
set_option maxHeartbeats 9000000 in
set_option maxRecDepth 100000 in
theorem shPutL {N : Nat} {w : World} {v : Value} {L : List UInt8} (h : Buf N w v L) (B : Nat) (hB : B ≤ w.heap.size) (hN : N ≤ 800000000) (x : Shn) (hx : ShFit x) (b : Value) (hb : YsV w x.body b) :
    Calls Tryd.prog 53 #[v, .agg (shA x b)] w fun e w' => ∃ u, e = .returned u ∧ OwnN B (N + 3145776) w' u (L ++ shB x) ∧ Ext w w' := by
  obtain ⟨A2, c2, rfl, hc2, hS2⟩ := hb
  obtain ⟨W, hW, hE, bx⟩ := box1 w (shA x (.slice A2 x.body.length c2)) 68
  have x0 : W.cell? ⟨w.heap.size, 0, none⟩ = some (.string x.st) := bx 0 _ rfl
  have xr0 := fun (w' : World) (h : Ext W w') => h.cellk x0
  clear x0
  have x1 : W.cell? ⟨w.heap.size, 1, none⟩ = some (.string x.su) := bx 1 _ rfl
  have xr1 := fun (w' : World) (h : Ext W w') => h.cellk x1
  clear x1
  have x2 : W.cell? ⟨w.heap.size, 2, none⟩ = some (.int .i64 x.ver) := bx 2 _ rfl
  have xr2 := fun (w' : World) (h : Ext W w') => h.cellk x2
  clear x2
  have x3 : W.cell? ⟨w.heap.size, 3, none⟩ = some (.int .i64 x.pos) := bx 3 _ rfl
  have xr3 := fun (w' : World) (h : Ext W w') => h.cellk x3
  clear x3
  have x4 : W.cell? ⟨w.heap.size, 4, none⟩ = some (.int .i64 x.code) := bx 4 _ rfl
  have xr4 := fun (w' : World) (h : Ext W w') => h.cellk x4
  clear x4
  have x5 : W.cell? ⟨w.heap.size, 5, none⟩ = some (.slice A2 x.body.length c2) := bx 5 _ rfl
  have xr5 := fun (w' : World) (h : Ext W w') => h.cellk x5
  clear x5
  have hb := h.ext hE
  have hB := Nat.le_trans hB hE.le
  have hY : Ext W W := Ext.refl W
  have hbl := fun (N' : Nat) (w' : World) (v' : Value) (L' : List UInt8) (h1 : Buf N' w' v' L') (h2 : N' ≤ 1000000000) (e : Ext W w') => @blobL N' w' v' L' h1 h2 B (Nat.le_trans hB e.le) A2 c2 x.body (hS2.ext (hE.trans e)) hc2 hx.body
  obtain ⟨P, hP⟩ : ∃ P : Ending → World → Prop, (fun e w' => ∃ u, e = .returned u ∧ OwnN B (N + 3145776) w' u (L ++ shB x) ∧ Ext w w') = P := ⟨_, rfl⟩
  rw [hP]
  have HP := Lib.hid hP
  generalize shA x (.slice A2 x.body.length c2) = G at *
  obtain ⟨m, hm⟩ : ∃ m, x.body.length = m := ⟨_, rfl⟩
  rw [hm] at xr5 hbl
  clear bx h hP hS2 hm hc2
  go_enter Tryd.func53, Tryd.ntmps53
  go_upto_region 1 with fail
  rw [← hW]
  clear hW
  apply key6 (F := fun (g10 g18 : Nat) (u11 u19 u22 : Value) (wx : World) => OwnN B (N + 3145776) wx u22 (L ++ shB x) ∧ Ext W wx)
  · intro key
    refine wp_region_noPanic ?_
    refine tr_start (.y 0 (.y 1 (.y 2 (.y 3 (.y 4 (.y 7 (.y 8 (.y 9 (.y 10 (.y 11 (.y 12 (.y 15 (.y 16 (.two 5 13 (.two 6 13 (.e 13 (.e 14 (.e 17 (.y 18 .nil)))) (.e 6 (.e 14 (.e 17 (.y 18 .nil))))) (.e 5 (.e 6 (.e 14 (.e 17 (.y 18 .nil))))))))))))))))))) (fun w' => Ext W w') (by kernel_rfl) (by as_aux_lemma => kernel_rfl) (fun _ _ _ _ _ h => h) (by (repeat (first | assumption | exact Ext.refl _ | refine Ext.drew ?_ | refine Ext.alloc ?_ _ | refine Ext.drewN ?_ _ | refine Ext.trans ?_ (by assumption)))) ?_
    have e0 : Ext W W.drew := (Ext.refl _).drew
    generalize W.drew = q0 at e0 ⊢
    have hY0 := hY.trans e0
    (first | (refine tr_off (a' := ?_) rfl rfl (by rfl) ?_ ?_; rotate_left 1; (· simp only [Act.put, zzA, zz0, zzS]; rfl)) | (refine tr_y (v := ?_) (a' := ?_) rfl rfl (by rfl) (fun w' hw' => ?_) ?_ ?_; rotate_left 2; (· go_simp; with_reducible rfl); (· simp only [Act.put, zzA, zz0, zzS]; rfl)))
    (first | (refine tr_off (a' := ?_) rfl rfl (by rfl) ?_ ?_; rotate_left 1; (· simp only [Act.put, zzA, zz0, zzS]; rfl)) | (refine tr_y (v := ?_) (a' := ?_) rfl rfl (by rfl) (fun w' hw' => ?_) ?_ ?_; rotate_left 2; (· go_simp; with_reducible rfl); (· simp only [Act.put, zzA, zz0, zzS]; rfl)))
    (first | (refine tr_off (a' := ?_) rfl rfl (by rfl) ?_ ?_; rotate_left 1; (· simp only [Act.put, zzA, zz0, zzS]; rfl)) | (refine tr_y (v := ?_) (a' := ?_) rfl rfl (by rfl) (fun w' hw' => ?_) ?_ ?_; rotate_left 2; (· go_simp; with_reducible rfl); (· simp only [Act.put, zzA, zz0, zzS]; rfl)))
    (first | (refine tr_off (a' := ?_) rfl rfl (by rfl) ?_ ?_; rotate_left 1; (· simp only [Act.put, zzA, zz0, zzS]; rfl)) | (refine tr_y (v := ?_) (a' := ?_) rfl rfl (by rfl) (fun w' hw' => ?_) ?_ ?_; rotate_left 2; (· go_simp; with_reducible rfl); (· simp only [Act.put, zzA, zz0, zzS]; rfl)))
    (first | (refine tr_off (a' := ?_) rfl rfl (by rfl) ?_ ?_; rotate_left 1; (· simp only [Act.put, zzA, zz0, zzS]; rfl)) | (refine tr_y (v := ?_) (a' := ?_) rfl rfl (by rfl) (fun w' hw' => ?_) ?_ ?_; rotate_left 2; (· go_simp; with_reducible rfl); (· simp only [Act.put, zzA, zz0, zzS]; rfl)))
    (first | (refine tr_off (a' := ?_) rfl rfl (by rfl) ?_ ?_; rotate_left 1; (· simp only [Act.put, zzA, zz0, zzS]; rfl)) | (refine tr_y (v := ?_) (a' := ?_) rfl rfl (by rfl) (fun w' hw' => ?_) ?_ ?_; rotate_left 2; (· go_simp; with_reducible rfl); (· simp only [Act.put, zzA, zz0, zzS]; rfl)))
    (first | (refine tr_off (a' := ?_) rfl rfl (by rfl) ?_ ?_; rotate_left 1; (· simp only [Act.put, zzA, zz0, zzS]; rfl)) | (refine tr_y (v := ?_) (a' := ?_) rfl rfl (by rfl) (fun w' hw' => ?_) ?_ ?_; rotate_left 2; (· go_simp; with_reducible rfl); (· simp only [Act.put, zzA, zz0, zzS]; rfl)))
    (first | (refine tr_off (a' := ?_) rfl rfl (by rfl) ?_ ?_; rotate_left 1; (· simp only [Act.put, zzA, zz0, zzS]; rfl)) | (refine tr_y (v := ?_) (a' := ?_) rfl rfl (by rfl) (fun w' hw' => ?_) ?_ ?_; rotate_left 2; (· go_simp; with_reducible rfl); (· simp only [Act.put, zzA, zz0, zzS]; rfl)))
    (first | (refine tr_off (a' := ?_) rfl rfl (by rfl) ?_ ?_; rotate_left 1; (· simp only [Act.put, zzA, zz0, zzS]; rfl)) | (refine tr_y (v := ?_) (a' := ?_) rfl rfl (by rfl) (fun w' hw' => ?_) ?_ ?_; rotate_left 2; (· go_simp; with_reducible rfl); (· simp only [Act.put, zzA, zz0, zzS]; rfl)))
    (first | (refine tr_off (a' := ?_) rfl rfl (by rfl) ?_ ?_; rotate_left 1; (· simp only [Act.put, zzA, zz0, zzS]; rfl)) | (refine tr_y (v := ?_) (a' := ?_) rfl rfl (by rfl) (fun w' hw' => ?_) ?_ ?_; rotate_left 2; (· go_simp; with_reducible rfl); (· simp only [Act.put, zzA, zz0, zzS]; rfl)))
    (first | (refine tr_off (a' := ?_) rfl rfl (by rfl) ?_ ?_; rotate_left 1; (· simp only [Act.put, zzA, zz0, zzS]; rfl)) | (refine tr_y (v := ?_) (a' := ?_) rfl rfl (by rfl) (fun w' hw' => ?_) ?_ ?_; rotate_left 2; (· go_simp; with_reducible rfl); (· simp only [Act.put, zzA, zz0, zzS]; rfl)))
    (first | (refine tr_off (a' := ?_) rfl rfl (by rfl) ?_ ?_; rotate_left 1; (· simp only [Act.put, zzA, zz0, zzS]; rfl)) | (refine tr_y (v := ?_) (a' := ?_) rfl rfl (by rfl) (fun w' hw' => ?_) ?_ ?_; rotate_left 2; (· go_simp; with_reducible rfl); (· simp only [Act.put, zzA, zz0, zzS]; rfl)))
    (first | (refine tr_off (a' := ?_) rfl rfl (by rfl) ?_ ?_; rotate_left 1; (· simp only [Act.put, zzA, zz0, zzS]; rfl)) | (refine tr_y (v := ?_) (a' := ?_) rfl rfl (by rfl) (fun w' hw' => ?_) ?_ ?_; rotate_left 2; (· go_simp; with_reducible rfl); (· simp only [Act.put, zzA, zz0, zzS]; rfl)))
    refine tr_two ?_ ?_
    · have b10 := Blk.new q0 9 #[.string x.st, .string x.su]
      have e1 : Ext q0 (q0.alloc (.cells #[.string x.st, .string x.su] 9)) := (Ext.refl _).alloc _
      have hY1 := hY0.trans e1
      refine tr_value (v := ?_) (w1 := ?_) (a' := ?_) rfl rfl (by rfl) ?_ ?_ ?_ ?_
      rotate_left 3
      · go_simp; refine ⟨?_, ?_⟩ <;> with_reducible rfl
      · exact hY1
      · simp only [Act.put, zzA, zz0, zzS]; rfl
      generalize q0.alloc (.cells #[.string x.st, .string x.su] 9) = q1 at b10 e1 hY1 ⊢
      generalize q0.heap.size = g10 at b10 ⊢
      refine tr_two ?_ ?_
      · refine tr_call (args := ?_) rfl Tryd.func32 (by kernel_rfl) rfl (by rfl) rfl rfl ?_ ?_
        rotate_left 1
        · go_simp; rfl
        (with_reducible refine (ctexts2 (hb.ext hY1) B (Nat.le_trans hB (Ext.le hY1)) (by omega) x.st x.su b10 hx.st hx.su).mono ?_)
        rintro e q2 ⟨u11, rfl, hO11, e2⟩
        have hY2 := hY1.trans e2
        refine ⟨_, _, rfl, hY2, (by simp only [Act.put, zzA, zz0, zzS]; rfl), ?_⟩
        have b18 := Blk.new q2 3 #[.int .i64 x.ver, .int .i64 x.pos, .int .i64 x.code]
        have e3 : Ext q2 (q2.alloc (.cells #[.int .i64 x.ver, .int .i64 x.pos, .int .i64 x.code] 3)) := (Ext.refl _).alloc _
        have hY3 := hY2.trans e3
        refine tr_value (v := ?_) (w1 := ?_) (a' := ?_) rfl rfl (by rfl) ?_ ?_ ?_ ?_
        rotate_left 3
        · go_simp; refine ⟨?_, ?_⟩ <;> with_reducible rfl
        · exact hY3
        · simp only [Act.put, zzA, zz0, zzS]; rfl
        generalize q2.alloc (.cells #[.int .i64 x.ver, .int .i64 x.pos, .int .i64 x.code] 3) = q3 at b18 e3 hY3 ⊢
        generalize q2.heap.size = g18 at b18 ⊢
        refine tr_call (args := ?_) rfl Tryd.func34 (by kernel_rfl) rfl (by rfl) rfl rfl ?_ ?_
        rotate_left 1
        · go_simp; rfl
        (with_reducible refine (cints3 (hO11.ext e3).buf B (Nat.le_trans hB (Ext.le hY3)) (by omega) x.ver x.pos x.code b18 hx.ver hx.pos hx.code).mono ?_)
        rintro e q4 ⟨u19, rfl, hO19, e4⟩
        have hY4 := hY3.trans e4
        refine ⟨_, _, rfl, hY4, (by simp only [Act.put, zzA, zz0, zzS]; rfl), ?_⟩
        refine tr_call (args := ?_) rfl Tryd.func36 (by kernel_rfl) rfl (by rfl) rfl rfl ?_ ?_
        rotate_left 1
        · go_simp; rfl
        (with_reducible refine (hbl _ _ _ _ hO19.buf (by omega) hY4).mono ?_)
        rintro e q5 ⟨u22, rfl, hO22, e5⟩
        have hY5 := hY4.trans e5
        refine ⟨_, _, rfl, hY5, (by simp only [Act.put, zzA, zz0, zzS]; rfl), ?_⟩
        (first | (refine tr_off (a' := ?_) rfl rfl (by rfl) ?_ ?_; rotate_left 1; (· simp only [Act.put, zzA, zz0, zzS]; rfl)) | (refine tr_y (v := ?_) (a' := ?_) rfl rfl (by rfl) (fun w' hw' => ?_) ?_ ?_; rotate_left 2; (· go_simp; with_reducible rfl); (· simp only [Act.put, zzA, zz0, zzS]; rfl)))
        refine tr_end ?_
        (refine NoPanic.normal ?_; exact key g10 g18 u11 u19 u22 q5 ⟨(hO22.re (by simp [shB])).wide (by omega), hY5⟩)
      · have b18 := Blk.new q1 3 #[.int .i64 x.ver, .int .i64 x.pos, .int .i64 x.code]
        have e2 : Ext q1 (q1.alloc (.cells #[.int .i64 x.ver, .int .i64 x.pos, .int .i64 x.code] 3)) := (Ext.refl _).alloc _
        have hY2 := hY1.trans e2
        refine tr_value (v := ?_) (w1 := ?_) (a' := ?_) rfl rfl (by rfl) ?_ ?_ ?_ ?_
        rotate_left 3
        · go_simp; refine ⟨?_, ?_⟩ <;> with_reducible rfl
        · exact hY2
        · simp only [Act.put, zzA, zz0, zzS]; rfl
        generalize q1.alloc (.cells #[.int .i64 x.ver, .int .i64 x.pos, .int .i64 x.code] 3) = q2 at b18 e2 hY2 ⊢
        generalize q1.heap.size = g18 at b18 ⊢
        refine tr_call (args := ?_) rfl Tryd.func32 (by kernel_rfl) rfl (by rfl) rfl rfl ?_ ?_
        rotate_left 1
        · go_simp; rfl
        (with_reducible refine (ctexts2 (hb.ext hY2) B (Nat.le_trans hB (Ext.le hY2)) (by omega) x.st x.su (b10.ext e2) hx.st hx.su).mono ?_)
        rintro e q3 ⟨u11, rfl, hO11, e3⟩
        have hY3 := hY2.trans e3
        refine ⟨_, _, rfl, hY3, (by simp only [Act.put, zzA, zz0, zzS]; rfl), ?_⟩
        refine tr_call (args := ?_) rfl Tryd.func34 (by kernel_rfl) rfl (by rfl) rfl rfl ?_ ?_
        rotate_left 1
        · go_simp; rfl
        (with_reducible refine (cints3 hO11.buf B (Nat.le_trans hB (Ext.le hY3)) (by omega) x.ver x.pos x.code (b18.ext e3) hx.ver hx.pos hx.code).mono ?_)
        rintro e q4 ⟨u19, rfl, hO19, e4⟩
        have hY4 := hY3.trans e4
        refine ⟨_, _, rfl, hY4, (by simp only [Act.put, zzA, zz0, zzS]; rfl), ?_⟩
        refine tr_call (args := ?_) rfl Tryd.func36 (by kernel_rfl) rfl (by rfl) rfl rfl ?_ ?_
        rotate_left 1
        · go_simp; rfl
        (with_reducible refine (hbl _ _ _ _ hO19.buf (by omega) hY4).mono ?_)
        rintro e q5 ⟨u22, rfl, hO22, e5⟩
        have hY5 := hY4.trans e5
        refine ⟨_, _, rfl, hY5, (by simp only [Act.put, zzA, zz0, zzS]; rfl), ?_⟩
        (first | (refine tr_off (a' := ?_) rfl rfl (by rfl) ?_ ?_; rotate_left 1; (· simp only [Act.put, zzA, zz0, zzS]; rfl)) | (refine tr_y (v := ?_) (a' := ?_) rfl rfl (by rfl) (fun w' hw' => ?_) ?_ ?_; rotate_left 2; (· go_simp; with_reducible rfl); (· simp only [Act.put, zzA, zz0, zzS]; rfl)))
        refine tr_end ?_
        (refine NoPanic.normal ?_; exact key g10 g18 u11 u19 u22 q5 ⟨(hO22.re (by simp [shB])).wide (by omega), hY5⟩)
    · have b18 := Blk.new q0 3 #[.int .i64 x.ver, .int .i64 x.pos, .int .i64 x.code]
      have e1 : Ext q0 (q0.alloc (.cells #[.int .i64 x.ver, .int .i64 x.pos, .int .i64 x.code] 3)) := (Ext.refl _).alloc _
      have hY1 := hY0.trans e1
      refine tr_value (v := ?_) (w1 := ?_) (a' := ?_) rfl rfl (by rfl) ?_ ?_ ?_ ?_
      rotate_left 3
      · go_simp; refine ⟨?_, ?_⟩ <;> with_reducible rfl
      · exact hY1
      · simp only [Act.put, zzA, zz0, zzS]; rfl
      generalize q0.alloc (.cells #[.int .i64 x.ver, .int .i64 x.pos, .int .i64 x.code] 3) = q1 at b18 e1 hY1 ⊢
      generalize q0.heap.size = g18 at b18 ⊢
      have b10 := Blk.new q1 9 #[.string x.st, .string x.su]
      have e2 : Ext q1 (q1.alloc (.cells #[.string x.st, .string x.su] 9)) := (Ext.refl _).alloc _
      have hY2 := hY1.trans e2
      refine tr_value (v := ?_) (w1 := ?_) (a' := ?_) rfl rfl (by rfl) ?_ ?_ ?_ ?_
      rotate_left 3
      · go_simp; refine ⟨?_, ?_⟩ <;> with_reducible rfl
      · exact hY2
      · simp only [Act.put, zzA, zz0, zzS]; rfl
      generalize q1.alloc (.cells #[.string x.st, .string x.su] 9) = q2 at b10 e2 hY2 ⊢
      generalize q1.heap.size = g10 at b10 ⊢
      refine tr_call (args := ?_) rfl Tryd.func32 (by kernel_rfl) rfl (by rfl) rfl rfl ?_ ?_
      rotate_left 1
      · go_simp; rfl
      (with_reducible refine (ctexts2 (hb.ext hY2) B (Nat.le_trans hB (Ext.le hY2)) (by omega) x.st x.su b10 hx.st hx.su).mono ?_)
      rintro e q3 ⟨u11, rfl, hO11, e3⟩
      have hY3 := hY2.trans e3
      refine ⟨_, _, rfl, hY3, (by simp only [Act.put, zzA, zz0, zzS]; rfl), ?_⟩
      refine tr_call (args := ?_) rfl Tryd.func34 (by kernel_rfl) rfl (by rfl) rfl rfl ?_ ?_
      rotate_left 1
      · go_simp; rfl
      (with_reducible refine (cints3 hO11.buf B (Nat.le_trans hB (Ext.le hY3)) (by omega) x.ver x.pos x.code (b18.ext (e2.trans e3)) hx.ver hx.pos hx.code).mono ?_)
      rintro e q4 ⟨u19, rfl, hO19, e4⟩
      have hY4 := hY3.trans e4
      refine ⟨_, _, rfl, hY4, (by simp only [Act.put, zzA, zz0, zzS]; rfl), ?_⟩
      refine tr_call (args := ?_) rfl Tryd.func36 (by kernel_rfl) rfl (by rfl) rfl rfl ?_ ?_
      rotate_left 1
      · go_simp; rfl
      (with_reducible refine (hbl _ _ _ _ hO19.buf (by omega) hY4).mono ?_)
      rintro e q5 ⟨u22, rfl, hO22, e5⟩
      have hY5 := hY4.trans e5
      refine ⟨_, _, rfl, hY5, (by simp only [Act.put, zzA, zz0, zzS]; rfl), ?_⟩
      (first | (refine tr_off (a' := ?_) rfl rfl (by rfl) ?_ ?_; rotate_left 1; (· simp only [Act.put, zzA, zz0, zzS]; rfl)) | (refine tr_y (v := ?_) (a' := ?_) rfl rfl (by rfl) (fun w' hw' => ?_) ?_ ?_; rotate_left 2; (· go_simp; with_reducible rfl); (· simp only [Act.put, zzA, zz0, zzS]; rfl)))
      refine tr_end ?_
      (refine NoPanic.normal ?_; exact key g10 g18 u11 u19 u22 q5 ⟨(hO22.re (by simp [shB])).wide (by omega), hY5⟩)
  intro g10 g18 u11 u19 u22 wx hkey
  obtain ⟨hO, hX⟩ := hkey
  go_wp2_with fail
  rw [← HP.out]
  exact ⟨u22, rfl, hO, hE.trans hX⟩
set_option maxHeartbeats 9000000 in
set_option maxRecDepth 100000 in
theorem enPutL {N : Nat} {w : World} {v : Value} {L : List UInt8} (h : Buf N w v L) (B : Nat) (hB : B ≤ w.heap.size) (hN : N ≤ 800000000) (x : Ent) (hx : EnFit x) :
    Calls Tryd.prog 55 #[v, .agg (enA x)] w fun e w' => ∃ u, e = .returned u ∧ OwnN B (N + 2097240) w' u (L ++ enB x) ∧ Ext w w' := by
  obtain ⟨W, hW, hE, bx⟩ := box1 w (enA x) 72
  have B1 : Blk W w.heap.size 72 (enA x) := by rw [hW]; exact Blk.new _ _ _
  have x0 : W.cell? ⟨w.heap.size, 0, none⟩ = some (.int .i64 x.no) := bx 0 _ rfl
  have xr0 := fun (w' : World) (h : Ext W w') => h.cellk x0
  clear x0
  have x1 : W.cell? ⟨w.heap.size, 1, none⟩ = some (.int .i64 x.clock) := bx 1 _ rfl
  have xr1 := fun (w' : World) (h : Ext W w') => h.cellk x1
  clear x1
  have x2 : W.cell? ⟨w.heap.size, 2, none⟩ = some (.int .i64 x.kind) := bx 2 _ rfl
  have xr2 := fun (w' : World) (h : Ext W w') => h.cellk x2
  clear x2
  have x3 : W.cell? ⟨w.heap.size, 3, none⟩ = some (.int .i64 x.code) := bx 3 _ rfl
  have xr3 := fun (w' : World) (h : Ext W w') => h.cellk x3
  clear x3
  have x4 : W.cell? ⟨w.heap.size, 4, none⟩ = some (.int .i64 x.id) := bx 4 _ rfl
  have xr4 := fun (w' : World) (h : Ext W w') => h.cellk x4
  clear x4
  have x5 : W.cell? ⟨w.heap.size, 5, none⟩ = some (.string x.st) := bx 5 _ rfl
  have xr5 := fun (w' : World) (h : Ext W w') => h.cellk x5
  clear x5
  have x6 : W.cell? ⟨w.heap.size, 6, none⟩ = some (.string x.su) := bx 6 _ rfl
  have xr6 := fun (w' : World) (h : Ext W w') => h.cellk x6
  clear x6
  have lm := fun (w' : World) (e : Ext W w') => load_part (B1.ext e) 7 (macA x.sum) [.int .i64 x.no, .int .i64 x.clock, .int .i64 x.kind, .int .i64 x.code, .int .i64 x.id, .string x.st, .string x.su] [] rfl rfl 25 _ Tryd.underlying25 rfl (by kernel_rfl)
  have hb := h.ext hE
  have hB := Nat.le_trans hB hE.le
  have hY : Ext W W := Ext.refl W
  have hsm := fun (N' : Nat) (w' : World) (v' : Value) (L' : List UInt8) (h1 : Buf N' w' v' L') (h2 : N' ≤ 1000000000) (e : Ext W w') => @sumL N' w' v' L' h1 h2 B (Nat.le_trans hB e.le) x.sum hx.sum
  obtain ⟨P, hP⟩ : ∃ P : Ending → World → Prop, (fun e w' => ∃ u, e = .returned u ∧ OwnN B (N + 2097240) w' u (L ++ enB x) ∧ Ext w w') = P := ⟨_, rfl⟩
  rw [hP]
  have HP := Lib.hid hP
  generalize macA x.sum = M at lm hsm
  generalize enA x = G at *
  clear bx h hP B1
  go_enter Tryd.func55, Tryd.ntmps55
  go_upto_region 1 with fail
  rw [← hW]
  clear hW
  apply key6 (F := fun (g16 g22 : Nat) (u17 u23 u26 : Value) (wx : World) => OwnN B (N + 2097240) wx u26 (L ++ enB x) ∧ Ext W wx)
  · intro key
    refine wp_region_noPanic ?_
    refine tr_start (.y 0 (.y 1 (.y 2 (.y 3 (.y 4 (.y 5 (.y 6 (.y 7 (.y 8 (.y 9 (.y 10 (.y 13 (.y 14 (.y 15 (.y 16 (.y 19 (.y 20 (.two 11 17 (.two 12 17 (.e 17 (.e 18 (.e 21 (.y 22 .nil)))) (.e 12 (.e 18 (.e 21 (.y 22 .nil))))) (.e 11 (.e 12 (.e 18 (.e 21 (.y 22 .nil))))))))))))))))))))))) (fun w' => Ext W w') (by kernel_rfl) (by as_aux_lemma => kernel_rfl) (fun _ _ _ _ _ h => h) (by (repeat (first | assumption | exact Ext.refl _ | refine Ext.drew ?_ | refine Ext.alloc ?_ _ | refine Ext.drewN ?_ _ | refine Ext.trans ?_ (by assumption)))) ?_
    have e0 : Ext W W.drew := (Ext.refl _).drew
    generalize W.drew = q0 at e0 ⊢
    have hY0 := hY.trans e0
    (first | (refine tr_off (a' := ?_) rfl rfl (by rfl) ?_ ?_; rotate_left 1; (· simp only [Act.put, zzA, zz0, zzS]; rfl)) | (refine tr_y (v := ?_) (a' := ?_) rfl rfl (by rfl) (fun w' hw' => ?_) ?_ ?_; rotate_left 2; (· go_simp; with_reducible rfl); (· simp only [Act.put, zzA, zz0, zzS]; rfl)))
    (first | (refine tr_off (a' := ?_) rfl rfl (by rfl) ?_ ?_; rotate_left 1; (· simp only [Act.put, zzA, zz0, zzS]; rfl)) | (refine tr_y (v := ?_) (a' := ?_) rfl rfl (by rfl) (fun w' hw' => ?_) ?_ ?_; rotate_left 2; (· go_simp; with_reducible rfl); (· simp only [Act.put, zzA, zz0, zzS]; rfl)))
    (first | (refine tr_off (a' := ?_) rfl rfl (by rfl) ?_ ?_; rotate_left 1; (· simp only [Act.put, zzA, zz0, zzS]; rfl)) | (refine tr_y (v := ?_) (a' := ?_) rfl rfl (by rfl) (fun w' hw' => ?_) ?_ ?_; rotate_left 2; (· go_simp; with_reducible rfl); (· simp only [Act.put, zzA, zz0, zzS]; rfl)))
    (first | (refine tr_off (a' := ?_) rfl rfl (by rfl) ?_ ?_; rotate_left 1; (· simp only [Act.put, zzA, zz0, zzS]; rfl)) | (refine tr_y (v := ?_) (a' := ?_) rfl rfl (by rfl) (fun w' hw' => ?_) ?_ ?_; rotate_left 2; (· go_simp; with_reducible rfl); (· simp only [Act.put, zzA, zz0, zzS]; rfl)))
    (first | (refine tr_off (a' := ?_) rfl rfl (by rfl) ?_ ?_; rotate_left 1; (· simp only [Act.put, zzA, zz0, zzS]; rfl)) | (refine tr_y (v := ?_) (a' := ?_) rfl rfl (by rfl) (fun w' hw' => ?_) ?_ ?_; rotate_left 2; (· go_simp; with_reducible rfl); (· simp only [Act.put, zzA, zz0, zzS]; rfl)))
    (first | (refine tr_off (a' := ?_) rfl rfl (by rfl) ?_ ?_; rotate_left 1; (· simp only [Act.put, zzA, zz0, zzS]; rfl)) | (refine tr_y (v := ?_) (a' := ?_) rfl rfl (by rfl) (fun w' hw' => ?_) ?_ ?_; rotate_left 2; (· go_simp; with_reducible rfl); (· simp only [Act.put, zzA, zz0, zzS]; rfl)))
    (first | (refine tr_off (a' := ?_) rfl rfl (by rfl) ?_ ?_; rotate_left 1; (· simp only [Act.put, zzA, zz0, zzS]; rfl)) | (refine tr_y (v := ?_) (a' := ?_) rfl rfl (by rfl) (fun w' hw' => ?_) ?_ ?_; rotate_left 2; (· go_simp; with_reducible rfl); (· simp only [Act.put, zzA, zz0, zzS]; rfl)))
    (first | (refine tr_off (a' := ?_) rfl rfl (by rfl) ?_ ?_; rotate_left 1; (· simp only [Act.put, zzA, zz0, zzS]; rfl)) | (refine tr_y (v := ?_) (a' := ?_) rfl rfl (by rfl) (fun w' hw' => ?_) ?_ ?_; rotate_left 2; (· go_simp; with_reducible rfl); (· simp only [Act.put, zzA, zz0, zzS]; rfl)))
    (first | (refine tr_off (a' := ?_) rfl rfl (by rfl) ?_ ?_; rotate_left 1; (· simp only [Act.put, zzA, zz0, zzS]; rfl)) | (refine tr_y (v := ?_) (a' := ?_) rfl rfl (by rfl) (fun w' hw' => ?_) ?_ ?_; rotate_left 2; (· go_simp; with_reducible rfl); (· simp only [Act.put, zzA, zz0, zzS]; rfl)))
    (first | (refine tr_off (a' := ?_) rfl rfl (by rfl) ?_ ?_; rotate_left 1; (· simp only [Act.put, zzA, zz0, zzS]; rfl)) | (refine tr_y (v := ?_) (a' := ?_) rfl rfl (by rfl) (fun w' hw' => ?_) ?_ ?_; rotate_left 2; (· go_simp; with_reducible rfl); (· simp only [Act.put, zzA, zz0, zzS]; rfl)))
    (first | (refine tr_off (a' := ?_) rfl rfl (by rfl) ?_ ?_; rotate_left 1; (· simp only [Act.put, zzA, zz0, zzS]; rfl)) | (refine tr_y (v := ?_) (a' := ?_) rfl rfl (by rfl) (fun w' hw' => ?_) ?_ ?_; rotate_left 2; (· go_simp; with_reducible rfl); (· simp only [Act.put, zzA, zz0, zzS]; rfl)))
    (first | (refine tr_off (a' := ?_) rfl rfl (by rfl) ?_ ?_; rotate_left 1; (· simp only [Act.put, zzA, zz0, zzS]; rfl)) | (refine tr_y (v := ?_) (a' := ?_) rfl rfl (by rfl) (fun w' hw' => ?_) ?_ ?_; rotate_left 2; (· go_simp; with_reducible rfl); (· simp only [Act.put, zzA, zz0, zzS]; rfl)))
    (first | (refine tr_off (a' := ?_) rfl rfl (by rfl) ?_ ?_; rotate_left 1; (· simp only [Act.put, zzA, zz0, zzS]; rfl)) | (refine tr_y (v := ?_) (a' := ?_) rfl rfl (by rfl) (fun w' hw' => ?_) ?_ ?_; rotate_left 2; (· go_simp; with_reducible rfl); (· simp only [Act.put, zzA, zz0, zzS]; rfl)))
    (first | (refine tr_off (a' := ?_) rfl rfl (by rfl) ?_ ?_; rotate_left 1; (· simp only [Act.put, zzA, zz0, zzS]; rfl)) | (refine tr_y (v := ?_) (a' := ?_) rfl rfl (by rfl) (fun w' hw' => ?_) ?_ ?_; rotate_left 2; (· go_simp; with_reducible rfl); (· simp only [Act.put, zzA, zz0, zzS]; rfl)))
    (first | (refine tr_off (a' := ?_) rfl rfl (by rfl) ?_ ?_; rotate_left 1; (· simp only [Act.put, zzA, zz0, zzS]; rfl)) | (refine tr_y (v := ?_) (a' := ?_) rfl rfl (by rfl) (fun w' hw' => ?_) ?_ ?_; rotate_left 2; (· go_simp; with_reducible rfl); (· simp only [Act.put, zzA, zz0, zzS]; rfl)))
    (first | (refine tr_off (a' := ?_) rfl rfl (by rfl) ?_ ?_; rotate_left 1; (· simp only [Act.put, zzA, zz0, zzS]; rfl)) | (refine tr_y (v := ?_) (a' := ?_) rfl rfl (by rfl) (fun w' hw' => ?_) ?_ ?_; rotate_left 2; (· go_simp; with_reducible rfl); (· simp only [Act.put, zzA, zz0, zzS]; rfl)))
    refine tr_y (v := ?_) (a' := ?_) rfl rfl (by rfl) (fun w' hw' => ?_) ?_ ?_
    rotate_left 2
    · (refine (run_op_load rfl ?_ (lm w' hw')).trans ?_; (· rfl); (· with_reducible rfl))
    · simp only [Act.put, zzA, zz0, zzS]; rfl
    refine tr_two ?_ ?_
    · have b16 := Blk.new q0 3 #[.int .i64 x.no, .int .i64 x.clock, .int .i64 x.kind, .int .i64 x.code, .int .i64 x.id]
      have e1 : Ext q0 (q0.alloc (.cells #[.int .i64 x.no, .int .i64 x.clock, .int .i64 x.kind, .int .i64 x.code, .int .i64 x.id] 3)) := (Ext.refl _).alloc _
      have hY1 := hY0.trans e1
      refine tr_value (v := ?_) (w1 := ?_) (a' := ?_) rfl rfl (by rfl) ?_ ?_ ?_ ?_
      rotate_left 3
      · go_simp; refine ⟨?_, ?_⟩ <;> with_reducible rfl
      · exact hY1
      · simp only [Act.put, zzA, zz0, zzS]; rfl
      generalize q0.alloc (.cells #[.int .i64 x.no, .int .i64 x.clock, .int .i64 x.kind, .int .i64 x.code, .int .i64 x.id] 3) = q1 at b16 e1 hY1 ⊢
      generalize q0.heap.size = g16 at b16 ⊢
      refine tr_two ?_ ?_
      · refine tr_call (args := ?_) rfl Tryd.func34 (by kernel_rfl) rfl (by rfl) rfl rfl ?_ ?_
        rotate_left 1
        · go_simp; rfl
        (with_reducible refine (cints5 (hb.ext hY1) B (Nat.le_trans hB (Ext.le hY1)) (by omega) x.no x.clock x.kind x.code x.id b16 hx.no hx.clock hx.kind hx.code hx.id).mono ?_)
        rintro e q2 ⟨u17, rfl, hO17, e2⟩
        have hY2 := hY1.trans e2
        refine ⟨_, _, rfl, hY2, (by simp only [Act.put, zzA, zz0, zzS]; rfl), ?_⟩
        have b22 := Blk.new q2 9 #[.string x.st, .string x.su]
        have e3 : Ext q2 (q2.alloc (.cells #[.string x.st, .string x.su] 9)) := (Ext.refl _).alloc _
        have hY3 := hY2.trans e3
        refine tr_value (v := ?_) (w1 := ?_) (a' := ?_) rfl rfl (by rfl) ?_ ?_ ?_ ?_
        rotate_left 3
        · go_simp; refine ⟨?_, ?_⟩ <;> with_reducible rfl
        · exact hY3
        · simp only [Act.put, zzA, zz0, zzS]; rfl
        generalize q2.alloc (.cells #[.string x.st, .string x.su] 9) = q3 at b22 e3 hY3 ⊢
        generalize q2.heap.size = g22 at b22 ⊢
        refine tr_call (args := ?_) rfl Tryd.func32 (by kernel_rfl) rfl (by rfl) rfl rfl ?_ ?_
        rotate_left 1
        · go_simp; rfl
        (with_reducible refine (ctexts2 (hO17.ext e3).buf B (Nat.le_trans hB (Ext.le hY3)) (by omega) x.st x.su b22 hx.st hx.su).mono ?_)
        rintro e q4 ⟨u23, rfl, hO23, e4⟩
        have hY4 := hY3.trans e4
        refine ⟨_, _, rfl, hY4, (by simp only [Act.put, zzA, zz0, zzS]; rfl), ?_⟩
        refine tr_call (args := ?_) rfl Tryd.func56 (by kernel_rfl) rfl (by rfl) rfl rfl ?_ ?_
        rotate_left 1
        · go_simp; rfl
        (with_reducible refine (hsm _ _ _ _ hO23.buf (by omega) hY4).mono ?_)
        rintro e q5 ⟨u26, rfl, hO26, e5⟩
        have hY5 := hY4.trans e5
        refine ⟨_, _, rfl, hY5, (by simp only [Act.put, zzA, zz0, zzS]; rfl), ?_⟩
        (first | (refine tr_off (a' := ?_) rfl rfl (by rfl) ?_ ?_; rotate_left 1; (· simp only [Act.put, zzA, zz0, zzS]; rfl)) | (refine tr_y (v := ?_) (a' := ?_) rfl rfl (by rfl) (fun w' hw' => ?_) ?_ ?_; rotate_left 2; (· go_simp; with_reducible rfl); (· simp only [Act.put, zzA, zz0, zzS]; rfl)))
        refine tr_end ?_
        (refine NoPanic.normal ?_; exact key g16 g22 u17 u23 u26 q5 ⟨(hO26.re (by simp [enB])).wide (by omega), hY5⟩)
      · have b22 := Blk.new q1 9 #[.string x.st, .string x.su]
        have e2 : Ext q1 (q1.alloc (.cells #[.string x.st, .string x.su] 9)) := (Ext.refl _).alloc _
        have hY2 := hY1.trans e2
        refine tr_value (v := ?_) (w1 := ?_) (a' := ?_) rfl rfl (by rfl) ?_ ?_ ?_ ?_
        rotate_left 3
        · go_simp; refine ⟨?_, ?_⟩ <;> with_reducible rfl
        · exact hY2
        · simp only [Act.put, zzA, zz0, zzS]; rfl
        generalize q1.alloc (.cells #[.string x.st, .string x.su] 9) = q2 at b22 e2 hY2 ⊢
        generalize q1.heap.size = g22 at b22 ⊢
        refine tr_call (args := ?_) rfl Tryd.func34 (by kernel_rfl) rfl (by rfl) rfl rfl ?_ ?_
        rotate_left 1
        · go_simp; rfl
        (with_reducible refine (cints5 (hb.ext hY2) B (Nat.le_trans hB (Ext.le hY2)) (by omega) x.no x.clock x.kind x.code x.id (b16.ext e2) hx.no hx.clock hx.kind hx.code hx.id).mono ?_)
        rintro e q3 ⟨u17, rfl, hO17, e3⟩
        have hY3 := hY2.trans e3
        refine ⟨_, _, rfl, hY3, (by simp only [Act.put, zzA, zz0, zzS]; rfl), ?_⟩
        refine tr_call (args := ?_) rfl Tryd.func32 (by kernel_rfl) rfl (by rfl) rfl rfl ?_ ?_
        rotate_left 1
        · go_simp; rfl
        (with_reducible refine (ctexts2 hO17.buf B (Nat.le_trans hB (Ext.le hY3)) (by omega) x.st x.su (b22.ext e3) hx.st hx.su).mono ?_)
        rintro e q4 ⟨u23, rfl, hO23, e4⟩
        have hY4 := hY3.trans e4
        refine ⟨_, _, rfl, hY4, (by simp only [Act.put, zzA, zz0, zzS]; rfl), ?_⟩
        refine tr_call (args := ?_) rfl Tryd.func56 (by kernel_rfl) rfl (by rfl) rfl rfl ?_ ?_
        rotate_left 1
        · go_simp; rfl
        (with_reducible refine (hsm _ _ _ _ hO23.buf (by omega) hY4).mono ?_)
        rintro e q5 ⟨u26, rfl, hO26, e5⟩
        have hY5 := hY4.trans e5
        refine ⟨_, _, rfl, hY5, (by simp only [Act.put, zzA, zz0, zzS]; rfl), ?_⟩
        (first | (refine tr_off (a' := ?_) rfl rfl (by rfl) ?_ ?_; rotate_left 1; (· simp only [Act.put, zzA, zz0, zzS]; rfl)) | (refine tr_y (v := ?_) (a' := ?_) rfl rfl (by rfl) (fun w' hw' => ?_) ?_ ?_; rotate_left 2; (· go_simp; with_reducible rfl); (· simp only [Act.put, zzA, zz0, zzS]; rfl)))
        refine tr_end ?_
        (refine NoPanic.normal ?_; exact key g16 g22 u17 u23 u26 q5 ⟨(hO26.re (by simp [enB])).wide (by omega), hY5⟩)
    · have b22 := Blk.new q0 9 #[.string x.st, .string x.su]
      have e1 : Ext q0 (q0.alloc (.cells #[.string x.st, .string x.su] 9)) := (Ext.refl _).alloc _
      have hY1 := hY0.trans e1
      refine tr_value (v := ?_) (w1 := ?_) (a' := ?_) rfl rfl (by rfl) ?_ ?_ ?_ ?_
      rotate_left 3
      · go_simp; refine ⟨?_, ?_⟩ <;> with_reducible rfl
      · exact hY1
      · simp only [Act.put, zzA, zz0, zzS]; rfl
      generalize q0.alloc (.cells #[.string x.st, .string x.su] 9) = q1 at b22 e1 hY1 ⊢
      generalize q0.heap.size = g22 at b22 ⊢
      have b16 := Blk.new q1 3 #[.int .i64 x.no, .int .i64 x.clock, .int .i64 x.kind, .int .i64 x.code, .int .i64 x.id]
      have e2 : Ext q1 (q1.alloc (.cells #[.int .i64 x.no, .int .i64 x.clock, .int .i64 x.kind, .int .i64 x.code, .int .i64 x.id] 3)) := (Ext.refl _).alloc _
      have hY2 := hY1.trans e2
      refine tr_value (v := ?_) (w1 := ?_) (a' := ?_) rfl rfl (by rfl) ?_ ?_ ?_ ?_
      rotate_left 3
      · go_simp; refine ⟨?_, ?_⟩ <;> with_reducible rfl
      · exact hY2
      · simp only [Act.put, zzA, zz0, zzS]; rfl
      generalize q1.alloc (.cells #[.int .i64 x.no, .int .i64 x.clock, .int .i64 x.kind, .int .i64 x.code, .int .i64 x.id] 3) = q2 at b16 e2 hY2 ⊢
      generalize q1.heap.size = g16 at b16 ⊢
      refine tr_call (args := ?_) rfl Tryd.func34 (by kernel_rfl) rfl (by rfl) rfl rfl ?_ ?_
      rotate_left 1
      · go_simp; rfl
      (with_reducible refine (cints5 (hb.ext hY2) B (Nat.le_trans hB (Ext.le hY2)) (by omega) x.no x.clock x.kind x.code x.id b16 hx.no hx.clock hx.kind hx.code hx.id).mono ?_)
      rintro e q3 ⟨u17, rfl, hO17, e3⟩
      have hY3 := hY2.trans e3
      refine ⟨_, _, rfl, hY3, (by simp only [Act.put, zzA, zz0, zzS]; rfl), ?_⟩
      refine tr_call (args := ?_) rfl Tryd.func32 (by kernel_rfl) rfl (by rfl) rfl rfl ?_ ?_
      rotate_left 1
      · go_simp; rfl
      (with_reducible refine (ctexts2 hO17.buf B (Nat.le_trans hB (Ext.le hY3)) (by omega) x.st x.su (b22.ext (e2.trans e3)) hx.st hx.su).mono ?_)
      rintro e q4 ⟨u23, rfl, hO23, e4⟩
      have hY4 := hY3.trans e4
      refine ⟨_, _, rfl, hY4, (by simp only [Act.put, zzA, zz0, zzS]; rfl), ?_⟩
      refine tr_call (args := ?_) rfl Tryd.func56 (by kernel_rfl) rfl (by rfl) rfl rfl ?_ ?_
      rotate_left 1
      · go_simp; rfl
      (with_reducible refine (hsm _ _ _ _ hO23.buf (by omega) hY4).mono ?_)
      rintro e q5 ⟨u26, rfl, hO26, e5⟩
      have hY5 := hY4.trans e5
      refine ⟨_, _, rfl, hY5, (by simp only [Act.put, zzA, zz0, zzS]; rfl), ?_⟩
      (first | (refine tr_off (a' := ?_) rfl rfl (by rfl) ?_ ?_; rotate_left 1; (· simp only [Act.put, zzA, zz0, zzS]; rfl)) | (refine tr_y (v := ?_) (a' := ?_) rfl rfl (by rfl) (fun w' hw' => ?_) ?_ ?_; rotate_left 2; (· go_simp; with_reducible rfl); (· simp only [Act.put, zzA, zz0, zzS]; rfl)))
      refine tr_end ?_
      (refine NoPanic.normal ?_; exact key g16 g22 u17 u23 u26 q5 ⟨(hO26.re (by simp [enB])).wide (by omega), hY5⟩)
  intro g16 g22 u17 u23 u26 wx hkey
  obtain ⟨hO, hX⟩ := hkey
  go_wp2_with fail
  rw [← HP.out]
  exact ⟨u26, rfl, hO, hE.trans hX⟩
end Go.Proofs.YtgfhbachgniipaaDoor

namespace Go.Proofs.YtgfhbachgniipaaDoor
open Go.RowKit
theorem one_shA (x : Shn) (b : Value) (h : b.oneCell' = true) : (shA x b).all (·.oneCell') = true := by simp [shA, oc_int, oc_str, h]
theorem sh_one {w : World} {x : Shn} {cs : List Value} (h : rdSh.K w x cs) : cs.toArray.size = 6 ∧ cs.toArray.all (·.oneCell') = true := by
  obtain ⟨b, rfl, A, c, rfl, -⟩ := sh_cells h
  exact ⟨rfl, by simpa using one_shA x (.slice A x.body.length c) rfl⟩
theorem en_one {w : World} {x : Ent} {cs : List Value} (h : rdEn.K w x cs) : cs.toArray.size = 39 ∧ cs.toArray.all (·.oneCell') = true := by
  obtain rfl := en_cells h
  exact ⟨rfl, by simpa using one_enA x⟩
theorem flat_enc {α β : Type} (f : α → List β) (l : List α) (k : Nat) (h : k < l.length) : (l.take (k + 1)).flatMap f = (l.take k).flatMap f ++ f l[k] := by
  rw [List.take_succ_eq_append_getElem h, List.flatMap_append]
  simp
theorem shPutK {N : Nat} {wr w0 : World} {v : Value} {L : List UInt8} (h : Buf N w0 v L) (B : Nat) (hB : B ≤ w0.heap.size) (hN : N ≤ 800000000) (x : Shn) (hx : ShFit x) (w' : World) (e : Ext wr w') (cs : List Value) (hK : rdSh.K wr x cs) (he : w0 = w' := by rfl) : Calls Tryd.prog 53 #[v, .agg cs.toArray] w' fun e w'' => ∃ u, e = .returned u ∧ OwnN B (N + 3145776) w'' u (L ++ shB x) ∧ Ext w' w'' := by
  subst he
  obtain ⟨b, rfl, hb⟩ := sh_cells hK
  exact shPutL h B hB hN x hx b (hb.ext e)
theorem enPutK {N : Nat} {wr w0 : World} {v : Value} {L : List UInt8} (h : Buf N w0 v L) (B : Nat) (hB : B ≤ w0.heap.size) (hN : N ≤ 800000000) (x : Ent) (hx : EnFit x) (w' : World) (e : Ext wr w') (cs : List Value) (hK : rdEn.K wr x cs) (he : w0 = w' := by rfl) : Calls Tryd.prog 55 #[v, .agg cs.toArray] w' fun e w'' => ∃ u, e = .returned u ∧ OwnN B (N + 2097240) w'' u (L ++ enB x) ∧ Ext w' w'' := by
  subst he
  obtain rfl := en_cells hK
  exact enPutL h B hB hN x hx
set_option maxHeartbeats 9000000 in
set_option maxRecDepth 100000 in
theorem rowsH_any {N : Nat} {w : World} {v : Value} {L : List UInt8} (h : Buf N w v L) (B : Nat) (hB : B ≤ w.heap.size) (hN : N ≤ 400000000) (A : Option Addr) (c : Nat) (l : List Shn) (hS : rdSh.Sl w A l.length l) (hc : l.length ≤ c) (hn : l.length ≤ 100) (hx : ∀ x ∈ l, ShFit x) :
    Calls Tryd.prog 52 #[v, .slice A l.length c, .func (.func 53) #[] #[]] w fun e w' => ∃ u, e = .returned u ∧ OwnN B (N + 8 + 3145776 * 100) w' u (L ++ (num8 l.length ++ l.flatMap shB)) ∧ Ext w w' := by
  obtain ⟨n, hln⟩ : ∃ n, l.length = n := ⟨_, rfl⟩
  have hnn : intOk (l.length : Int) := by unfold intOk; omega
  have hi := intL h (by omega) B hB l.length hnn
  rw [hln] at hS hc hn hi ⊢
  have HL := Lib.hid hln
  clear hln hnn
  obtain ⟨P, hP⟩ : ∃ P : Ending → World → Prop, (fun e w' => ∃ u, e = .returned u ∧ OwnN B (N + 8 + 3145776 * 100) w' u (L ++ (num8 n ++ l.flatMap shB)) ∧ Ext w w') = P := ⟨_, rfl⟩
  rw [hP]
  have HP := Lib.hid hP
  clear hP
  go_enter Tryd.func52, Tryd.ntmps52
  go_wp2_with (go_at_call 63; (with_reducible refine hi.mono ?_); rintro e w1 ⟨u1, rfl, hO1, hE1⟩)
  clear hi
  go_loopw [0, 15] (fun s i wr => ∃ k : Nat, k ≤ n ∧ i = .int .i64 k ∧ OwnN B (N + 8 + 3145776 * k) wr s (L ++ (num8 n ++ (l.take k).flatMap shB)) ∧ Ext w wr) (fun _ i _ => n - (intOf i).toNat)
  case atStart => exact ⟨0, by omega, rfl, by simpa using hO1, hE1⟩
  case round =>
    clear hO1 hE1
    obtain ⟨k, hkn, rfl, hO, hwr⟩ := hrel
    by_cases hlt : k < n
    · obtain ⟨b, o, rfl⟩ := el_addr hS k hlt
      obtain ⟨x, hxe⟩ : ∃ x, l[k]? = some x := ⟨_, List.getElem?_eq_getElem (by rw [HL.out]; omega)⟩
      obtain ⟨hkl, hxl⟩ := List.getElem?_eq_some_iff.1 hxe
      obtain ⟨cs, hK, rx⟩ := el_loadK (hS.ext hwr) k x hxe 68 _ Tryd.underlying68 rfl (by kernel_rfl)
      simp only [show rdSh.sz = 6 from rfl] at rx
      obtain ⟨hC1, hC2⟩ := sh_one hK
      have hone := flat_enc shB l k hkl
      rw [hxl] at hone
      have hfx := hx x (by rw [← hxl]; exact List.getElem_mem hkl)
      have hbl := fun (w' : World) (e : Ext wr w') => (shPutK (hO.buf.ext e) B (Nat.le_trans hB (Nat.le_trans hwr.le e.le)) (by omega) x hfx w' e cs hK).mono (R' := fun e9 w9 => ∃ u, e9 = .returned u ∧ OwnN B (N + 8 + 3145776 * (k + 1)) w9 u (L ++ (num8 n ++ (l.take (k + 1)).flatMap shB)) ∧ Ext wr w9) (by rintro e9 w9 ⟨u, rfl, h1, h2⟩; exact ⟨u, rfl, (h1.re (by rw [hone]; simp)).wide (by omega), e.trans h2⟩)
      have hEa : Ext wr (wr.alloc (.cells #[.string ⟨#[]⟩, .string ⟨#[]⟩, .int .i64 0, .int .i64 0, .int .i64 0, .slice none 0 0] 68)) := (Ext.refl _).alloc _
      generalize cs.toArray = C at *
      obtain ⟨wS, hrS, BS, hXS⟩ := store_part (Blk.new wr 68 #[.string ⟨#[]⟩, .string ⟨#[]⟩, .int .i64 0, .int .i64 0, .int .i64 0, .slice none 0 0]) 0 C [] [.string ⟨#[]⟩, .string ⟨#[]⟩, .int .i64 0, .int .i64 0, .int .i64 0, .slice none 0 0] [] rfl rfl hC1.symm 68 (by rw [hC1]; kernel_rfl) hC2
      have BS : Blk wS wr.heap.size 68 C := by simpa using BS
      have hES : Ext wr wS := Exc.ext hEa hXS (Nat.le_refl _)
      have hlS := load_whole BS 68 _ Tryd.underlying68 rfl (by rw [hC1]; kernel_rfl)
      have hbS := hbl wS hES
      clear hS hK hone hfx hO hxe hxl hbl BS hXS hEa hC1 hC2
      go_wp2_with (first | (refine wpList_load_by rfl rfl ?_ (rx _ (Ext.refl _)) ?_; (· rfl)) | (refine wpList_store_by rfl rfl ?_ ?_ hrS ?_; (· rfl); (· rfl)) | (refine wpList_load_by rfl rfl ?_ hlS ?_; (· rfl)) | (go_at_call 53; (with_reducible refine hbS.mono ?_); rintro e w9 ⟨v9, rfl, hO9, hE9⟩))
      go_roundw
      case rel => first | exact ⟨k + 1, by omega, by go_num, hO9, hwr.trans hE9⟩ | ((repeat apply Exists.intro); exact ⟨⟨k + 1, by omega, by go_num, hO9, hwr.trans hE9⟩, rfl⟩)
      case measure => simp [intOf]; omega
    · obtain rfl : k = n := by omega
      have htk : l.take k = l := List.take_of_length_le (by rw [HL.out]; omega)
      rw [htk] at hO
      clear hS htk
      go_wp2_with fail
      rw [← HP.out]
      exact ⟨_, rfl, hO.wide (by omega), hwr⟩
set_option maxHeartbeats 9000000 in
set_option maxRecDepth 100000 in
theorem rowsE_any {N : Nat} {w : World} {v : Value} {L : List UInt8} (h : Buf N w v L) (B : Nat) (hB : B ≤ w.heap.size) (hN : N ≤ 500000000) (A : Option Addr) (c : Nat) (l : List Ent) (hS : rdEn.Sl w A l.length l) (hc : l.length ≤ c) (hn : l.length ≤ 100) (hx : ∀ x ∈ l, EnFit x) :
    Calls Tryd.prog 54 #[v, .slice A l.length c, .func (.func 55) #[] #[]] w fun e w' => ∃ u, e = .returned u ∧ OwnN B (N + 8 + 2097240 * 100) w' u (L ++ (num8 l.length ++ l.flatMap enB)) ∧ Ext w w' := by
  obtain ⟨n, hln⟩ : ∃ n, l.length = n := ⟨_, rfl⟩
  have hnn : intOk (l.length : Int) := by unfold intOk; omega
  have hi := intL h (by omega) B hB l.length hnn
  rw [hln] at hS hc hn hi ⊢
  have HL := Lib.hid hln
  clear hln hnn
  obtain ⟨P, hP⟩ : ∃ P : Ending → World → Prop, (fun e w' => ∃ u, e = .returned u ∧ OwnN B (N + 8 + 2097240 * 100) w' u (L ++ (num8 n ++ l.flatMap enB)) ∧ Ext w w') = P := ⟨_, rfl⟩
  rw [hP]
  have HP := Lib.hid hP
  clear hP
  go_enter Tryd.func54, Tryd.ntmps54
  go_wp2_with (go_at_call 63; (with_reducible refine hi.mono ?_); rintro e w1 ⟨u1, rfl, hO1, hE1⟩)
  clear hi
  go_loopw [0, 15] (fun s i wr => ∃ k : Nat, k ≤ n ∧ i = .int .i64 k ∧ OwnN B (N + 8 + 2097240 * k) wr s (L ++ (num8 n ++ (l.take k).flatMap enB)) ∧ Ext w wr) (fun _ i _ => n - (intOf i).toNat)
  case atStart => exact ⟨0, by omega, rfl, by simpa using hO1, hE1⟩
  case round =>
    clear hO1 hE1
    obtain ⟨k, hkn, rfl, hO, hwr⟩ := hrel
    by_cases hlt : k < n
    · obtain ⟨b, o, rfl⟩ := el_addr hS k hlt
      obtain ⟨x, hxe⟩ : ∃ x, l[k]? = some x := ⟨_, List.getElem?_eq_getElem (by rw [HL.out]; omega)⟩
      obtain ⟨hkl, hxl⟩ := List.getElem?_eq_some_iff.1 hxe
      obtain ⟨cs, hK, rx⟩ := el_loadK (hS.ext hwr) k x hxe 72 _ Tryd.underlying72 rfl (by kernel_rfl)
      simp only [show rdEn.sz = 39 from rfl] at rx
      obtain ⟨hC1, hC2⟩ := en_one hK
      have hone := flat_enc enB l k hkl
      rw [hxl] at hone
      have hfx := hx x (by rw [← hxl]; exact List.getElem_mem hkl)
      have hbl := fun (w' : World) (e : Ext wr w') => (enPutK (hO.buf.ext e) B (Nat.le_trans hB (Nat.le_trans hwr.le e.le)) (by omega) x hfx w' e cs hK).mono (R' := fun e9 w9 => ∃ u, e9 = .returned u ∧ OwnN B (N + 8 + 2097240 * (k + 1)) w9 u (L ++ (num8 n ++ (l.take (k + 1)).flatMap enB)) ∧ Ext wr w9) (by rintro e9 w9 ⟨u, rfl, h1, h2⟩; exact ⟨u, rfl, (h1.re (by rw [hone]; simp)).wide (by omega), e.trans h2⟩)
      have hEa : Ext wr (wr.alloc (.cells #[.int .i64 0, .int .i64 0, .int .i64 0, .int .i64 0, .int .i64 0, .string ⟨#[]⟩, .string ⟨#[]⟩, .int .u8 0, .int .u8 0, .int .u8 0, .int .u8 0, .int .u8 0, .int .u8 0, .int .u8 0, .int .u8 0, .int .u8 0, .int .u8 0, .int .u8 0, .int .u8 0, .int .u8 0, .int .u8 0, .int .u8 0, .int .u8 0, .int .u8 0, .int .u8 0, .int .u8 0, .int .u8 0, .int .u8 0, .int .u8 0, .int .u8 0, .int .u8 0, .int .u8 0, .int .u8 0, .int .u8 0, .int .u8 0, .int .u8 0, .int .u8 0, .int .u8 0, .int .u8 0] 72)) := (Ext.refl _).alloc _
      generalize cs.toArray = C at *
      obtain ⟨wS, hrS, BS, hXS⟩ := store_part (Blk.new wr 72 #[.int .i64 0, .int .i64 0, .int .i64 0, .int .i64 0, .int .i64 0, .string ⟨#[]⟩, .string ⟨#[]⟩, .int .u8 0, .int .u8 0, .int .u8 0, .int .u8 0, .int .u8 0, .int .u8 0, .int .u8 0, .int .u8 0, .int .u8 0, .int .u8 0, .int .u8 0, .int .u8 0, .int .u8 0, .int .u8 0, .int .u8 0, .int .u8 0, .int .u8 0, .int .u8 0, .int .u8 0, .int .u8 0, .int .u8 0, .int .u8 0, .int .u8 0, .int .u8 0, .int .u8 0, .int .u8 0, .int .u8 0, .int .u8 0, .int .u8 0, .int .u8 0, .int .u8 0, .int .u8 0]) 0 C [] [.int .i64 0, .int .i64 0, .int .i64 0, .int .i64 0, .int .i64 0, .string ⟨#[]⟩, .string ⟨#[]⟩, .int .u8 0, .int .u8 0, .int .u8 0, .int .u8 0, .int .u8 0, .int .u8 0, .int .u8 0, .int .u8 0, .int .u8 0, .int .u8 0, .int .u8 0, .int .u8 0, .int .u8 0, .int .u8 0, .int .u8 0, .int .u8 0, .int .u8 0, .int .u8 0, .int .u8 0, .int .u8 0, .int .u8 0, .int .u8 0, .int .u8 0, .int .u8 0, .int .u8 0, .int .u8 0, .int .u8 0, .int .u8 0, .int .u8 0, .int .u8 0, .int .u8 0, .int .u8 0] [] rfl rfl hC1.symm 72 (by rw [hC1]; kernel_rfl) hC2
      have BS : Blk wS wr.heap.size 72 C := by simpa using BS
      have hES : Ext wr wS := Exc.ext hEa hXS (Nat.le_refl _)
      have hlS := load_whole BS 72 _ Tryd.underlying72 rfl (by rw [hC1]; kernel_rfl)
      have hbS := hbl wS hES
      clear hS hK hone hfx hO hxe hxl hbl BS hXS hEa hC1 hC2
      go_wp2_with (first | (refine wpList_load_by rfl rfl ?_ (rx _ (Ext.refl _)) ?_; (· rfl)) | (refine wpList_store_by rfl rfl ?_ ?_ hrS ?_; (· rfl); (· rfl)) | (refine wpList_load_by rfl rfl ?_ hlS ?_; (· rfl)) | (go_at_call 55; (with_reducible refine hbS.mono ?_); rintro e w9 ⟨v9, rfl, hO9, hE9⟩))
      go_roundw
      case rel => first | exact ⟨k + 1, by omega, by go_num, hO9, hwr.trans hE9⟩ | ((repeat apply Exists.intro); exact ⟨⟨k + 1, by omega, by go_num, hO9, hwr.trans hE9⟩, rfl⟩)
      case measure => simp [intOf]; omega
    · obtain rfl : k = n := by omega
      have htk : l.take k = l := List.take_of_length_le (by rw [HL.out]; omega)
      rw [htk] at hO
      clear hS htk
      go_wp2_with fail
      rw [← HP.out]
      exact ⟨_, rfl, hO.wide (by omega), hwr⟩
end Go.Proofs.YtgfhbachgniipaaDoor

namespace Go.Proofs.YtgfhbachgniipaaDoor
open Go.RowKit
structure AnsFitL (x : Ans) : Prop where
  tok : TokFit x.tok
  code : intOk x.code
  num : intOk x.num
  m : x.shown.length ≤ 100
  sh : ∀ y ∈ x.shown, ShFit y
  k : x.ents.length ≤ 100
  en : ∀ y ∈ x.ents, EnFit y
theorem AnsFitL.len {x : Ans} (h : AnsFitL x) : AnsLen x := ⟨Nat.le_trans h.tok.n (by decide), fun g hg => Nat.le_trans (h.tok.g g hg).p (by decide), Nat.le_trans h.m (by decide), fun y hy => Nat.le_trans (h.sh y hy).body (by decide), Nat.le_trans h.k (by decide)⟩
def PutA (w : World) (x : Ans) (e : Ending) (w' : World) : Prop :=
  (ansG x ≠ 0 → e = .returned (.tuple #[.slice none 0 0, .int .i64 (ansG x)])) ∧ (ansG x = 0 → ∃ u, e = .returned (.tuple #[u, .int .i64 0]) ∧ OwnN w.heap.size 700000000 w' u (ansB x)) ∧ Ext w w'
set_option maxHeartbeats 9000000 in
set_option maxRecDepth 100000 in
theorem aput_any (w : World) (x : Ans) (s a e : Value) (hH : HsV w x.shown s) (hG : GsV w x.tok.gs a) (hN : EsV w x.ents e) (hf : AnsFitL x) :
    Calls Tryd.prog 25 #[.agg (ansA x s a e)] w (PutA w x) := by
  have hck := fun (w' : World) (h : Ext w w') => ansCheck_any w' x s a e (hH.ext h) (hG.ext h) (hN.ext h) hf.len
  obtain ⟨W, hW, hE, bx⟩ := box1 w (ansA x s a e) 45
  have B1 : Blk W w.heap.size 45 (ansA x s a e) := by rw [hW]; exact Blk.new _ _ _
  have l0 := load_whole B1 45 _ Tryd.underlying45 rfl (by kernel_rfl)
  have l1 := fun (w' : World) (h : Ext W w') => load_part (B1.ext h) 3 (tokA x.tok a) [.int .i64 x.code, .int .i64 x.num, s] [e] rfl rfl 27 _ Tryd.underlying27 rfl (by kernel_rfl)
  have x0 : W.cell? ⟨w.heap.size, 0, none⟩ = some (.int .i64 x.code) := bx 0 _ rfl
  have xr0 := fun (w' : World) (h : Ext W w') => h.cellk x0
  clear x0
  have x1 : W.cell? ⟨w.heap.size, 1, none⟩ = some (.int .i64 x.num) := bx 1 _ rfl
  have xr1 := fun (w' : World) (h : Ext W w') => h.cellk x1
  clear x1
  have x2 : W.cell? ⟨w.heap.size, 2, none⟩ = some (s) := bx 2 _ rfl
  have xr2 := fun (w' : World) (h : Ext W w') => h.cellk x2
  clear x2
  have x38 : W.cell? ⟨w.heap.size, 38, none⟩ = some (e) := bx 38 _ rfl
  have xr38 := fun (w' : World) (h : Ext W w') => h.cellk x38
  clear x38
  obtain ⟨P, hP⟩ : ∃ P, PutA w x = P := ⟨_, rfl⟩
  obtain ⟨v, hv⟩ : ∃ v, ansG x = v := ⟨_, rfl⟩
  rw [hv] at hck
  rw [hP]
  have HP := Lib.hid hP
  have HV := Lib.hid hv
  have hB : w.heap.size ≤ W.heap.size := hE.le
  have htp := fun (N' : Nat) (w' : World) (v' : Value) (L' : List UInt8) (h1 : Buf N' w' v' L') (h2 : N' ≤ 500000000) (h : Ext W w') => @tputL N' w' v' L' h1 w.heap.size (Nat.le_trans hB h.le) h2 x.tok hf.tok a (hG.ext (hE.trans h))
  have hrh := fun (N' : Nat) (w' : World) (v' : Value) (L' : List UInt8) (h1 : Buf N' w' v' L') (h2 : N' ≤ 400000000) (h : Ext W w') => (show Calls Tryd.prog 52 #[v', s, .func (.func 53) #[] #[]] w' fun e w'' => ∃ u, e = .returned u ∧ OwnN w.heap.size (N' + 8 + 3145776 * 100) w'' u (L' ++ (num8 x.shown.length ++ x.shown.flatMap shB)) ∧ Ext w' w'' by
    obtain ⟨A2, c2, rfl, h3, h4⟩ := hH
    exact rowsH_any h1 w.heap.size (Nat.le_trans hB h.le) h2 A2 c2 x.shown (h4.ext (hE.trans h)) h3 hf.m hf.sh)
  have hre := fun (N' : Nat) (w' : World) (v' : Value) (L' : List UInt8) (h1 : Buf N' w' v' L') (h2 : N' ≤ 500000000) (h : Ext W w') => (show Calls Tryd.prog 54 #[v', e, .func (.func 55) #[] #[]] w' fun e w'' => ∃ u, e = .returned u ∧ OwnN w.heap.size (N' + 8 + 2097240 * 100) w'' u (L' ++ (num8 x.ents.length ++ x.ents.flatMap enB)) ∧ Ext w' w'' by
    obtain ⟨A2, c2, rfl, h3, h4⟩ := hN
    exact rowsE_any h1 w.heap.size (Nat.le_trans hB h.le) h2 A2 c2 x.ents (h4.ext (hE.trans h)) h3 hf.k hf.en)
  generalize hC : ansA x s a e = C at *
  generalize tokA x.tok a = T at *
  clear hP hv hH hG hN B1 bx hC
  by_cases h0 : v = 0
  · have h0' : (v != 0) = false := by simpa using h0
    have hz : ansG x = 0 := HV.out.trans h0
    subst h0
    go_enter Tryd.func25, Tryd.ntmps25
    go_upto_region 1 with fail
    rw [← hW]
    clear hW
    go_upto_region 4 with (first | (refine wpList_load_by rfl rfl ?_ l0 ?_; (· rfl)) | (go_at_call 10; (with_reducible refine (hck _ hE).mono ?_); rintro e w1 ⟨rfl, hE1⟩))
    clear l0 hck
    refine wp_region_noPanic ?_
    refine tr_start (.y 0 (.y 1 (.y 2 (.y 3 (.y 6 (.y 7 (.e 4 (.e 5 (.e 8 (.y 9 .nil)))))))))) (fun w' => Ext W w') (by kernel_rfl) (by as_aux_lemma => kernel_rfl) (fun _ _ _ _ _ h => h) (by (repeat (first | assumption | exact Ext.refl _ | refine Ext.drew ?_ | refine Ext.alloc ?_ _ | refine Ext.drewN ?_ _ | refine Ext.trans ?_ (by assumption)))) ?_
    have ea0 : Ext w1 w1.drew := (Ext.refl _).drew
    generalize w1.drew = qa0 at ea0 ⊢
    have hYa0 := hE1.trans ea0
    (first | (refine tr_off (a' := ?_) rfl rfl (by rfl) ?_ ?_; rotate_left 1; (· simp only [Act.put, zzA, zz0, zzS]; rfl)) | (refine tr_y (v := ?_) (a' := ?_) rfl rfl (by rfl) (fun w' hw' => ?_) ?_ ?_; rotate_left 2; (· go_simp; with_reducible rfl); (· simp only [Act.put, zzA, zz0, zzS]; rfl)))
    (first | (refine tr_off (a' := ?_) rfl rfl (by rfl) ?_ ?_; rotate_left 1; (· simp only [Act.put, zzA, zz0, zzS]; rfl)) | (refine tr_y (v := ?_) (a' := ?_) rfl rfl (by rfl) (fun w' hw' => ?_) ?_ ?_; rotate_left 2; (· go_simp; with_reducible rfl); (· simp only [Act.put, zzA, zz0, zzS]; rfl)))
    (first | (refine tr_off (a' := ?_) rfl rfl (by rfl) ?_ ?_; rotate_left 1; (· simp only [Act.put, zzA, zz0, zzS]; rfl)) | (refine tr_y (v := ?_) (a' := ?_) rfl rfl (by rfl) (fun w' hw' => ?_) ?_ ?_; rotate_left 2; (· go_simp; with_reducible rfl); (· simp only [Act.put, zzA, zz0, zzS]; rfl)))
    (first | (refine tr_off (a' := ?_) rfl rfl (by rfl) ?_ ?_; rotate_left 1; (· simp only [Act.put, zzA, zz0, zzS]; rfl)) | (refine tr_y (v := ?_) (a' := ?_) rfl rfl (by rfl) (fun w' hw' => ?_) ?_ ?_; rotate_left 2; (· go_simp; with_reducible rfl); (· simp only [Act.put, zzA, zz0, zzS]; rfl)))
    (first | (refine tr_off (a' := ?_) rfl rfl (by rfl) ?_ ?_; rotate_left 1; (· simp only [Act.put, zzA, zz0, zzS]; rfl)) | (refine tr_y (v := ?_) (a' := ?_) rfl rfl (by rfl) (fun w' hw' => ?_) ?_ ?_; rotate_left 2; (· go_simp; with_reducible rfl); (· simp only [Act.put, zzA, zz0, zzS]; rfl)))
    (first | (refine tr_off (a' := ?_) rfl rfl (by rfl) ?_ ?_; rotate_left 1; (· simp only [Act.put, zzA, zz0, zzS]; rfl)) | (refine tr_y (v := ?_) (a' := ?_) rfl rfl (by rfl) (fun w' hw' => ?_) ?_ ?_; rotate_left 2; (· go_simp; with_reducible rfl); (· simp only [Act.put, zzA, zz0, zzS]; rfl)))
    have b15 := Blk.new qa0 3 #[.int .i64 x.code, .int .i64 x.num]
    have ea1 : Ext qa0 (qa0.alloc (.cells #[.int .i64 x.code, .int .i64 x.num] 3)) := (Ext.refl _).alloc _
    have hYa1 := hYa0.trans ea1
    refine tr_value (v := ?_) (w1 := ?_) (a' := ?_) rfl rfl (by rfl) ?_ ?_ ?_ ?_
    rotate_left 3
    · go_simp; refine ⟨?_, ?_⟩ <;> with_reducible rfl
    · exact hYa1
    · simp only [Act.put, zzA, zz0, zzS]; rfl
    generalize qa0.alloc (.cells #[.int .i64 x.code, .int .i64 x.num] 3) = qa1 at b15 ea1 hYa1 ⊢
    generalize qa0.heap.size = g15 at b15 ⊢
    refine tr_call (args := ?_) rfl Tryd.func34 (by kernel_rfl) rfl (by rfl) rfl rfl ?_ ?_
    rotate_left 1
    · go_simp; rfl
    (with_reducible refine (cints2 (Buf.nil _) w.heap.size (Nat.le_trans hB (Ext.le hYa1)) (by decide) x.code x.num b15 hf.code hf.num).mono ?_)
    rintro e qa2 ⟨u16, rfl, hO16, ea2⟩
    have hYa2 := hYa1.trans ea2
    refine ⟨_, _, rfl, hYa2, (by simp only [Act.put, zzA, zz0, zzS]; rfl), ?_⟩
    refine tr_call (args := ?_) rfl Tryd.func52 (by kernel_rfl) rfl (by rfl) rfl rfl ?_ ?_
    rotate_left 1
    · go_simp; rfl
    (with_reducible refine (hrh _ _ _ _ hO16.buf (by decide) hYa2).mono ?_)
    rintro e qa3 ⟨u19, rfl, hO19, ea3⟩
    have hYa3 := hYa2.trans ea3
    refine ⟨_, _, rfl, hYa3, (by simp only [Act.put, zzA, zz0, zzS]; rfl), ?_⟩
    (first | (refine tr_off (a' := ?_) rfl rfl (by rfl) ?_ ?_; rotate_left 1; (· simp only [Act.put, zzA, zz0, zzS]; rfl)) | (refine tr_y (v := ?_) (a' := ?_) rfl rfl (by rfl) (fun w' hw' => ?_) ?_ ?_; rotate_left 2; (· go_simp; with_reducible rfl); (· simp only [Act.put, zzA, zz0, zzS]; rfl)))
    refine tr_end ?_
    refine NoPanic.normal ?_
    have hOa := (hO19.re (L' := num8 x.code ++ (num8 x.num ++ (num8 x.shown.length ++ x.shown.flatMap shB))) (by simp)).wide (N' := 314577650) (by decide)
    clear hO16 hO19 b15
    generalize qa3 = wy at *
    go_upto_region 5 with fail
    refine wp_region_noPanic ?_
    refine tr_start (.y 0 (.y 1 (.y 2 (.y 4 (.y 5 (.e 3 (.e 6 (.y 7 .nil)))))))) (fun w' => Ext W w') (by kernel_rfl) (by as_aux_lemma => kernel_rfl) (fun _ _ _ _ _ h => h) (by (repeat (first | assumption | exact Ext.refl _ | refine Ext.drew ?_ | refine Ext.alloc ?_ _ | refine Ext.drewN ?_ _ | refine Ext.trans ?_ (by assumption)))) ?_
    have eb0 : Ext wy wy.drew := (Ext.refl _).drew
    generalize wy.drew = qb0 at eb0 ⊢
    have hYb0 := hYa3.trans eb0
    (first | (refine tr_off (a' := ?_) rfl rfl (by rfl) ?_ ?_; rotate_left 1; (· simp only [Act.put, zzA, zz0, zzS]; rfl)) | (refine tr_y (v := ?_) (a' := ?_) rfl rfl (by rfl) (fun w' hw' => ?_) ?_ ?_; rotate_left 2; (· go_simp; with_reducible rfl); (· simp only [Act.put, zzA, zz0, zzS]; rfl)))
    (first | (refine tr_off (a' := ?_) rfl rfl (by rfl) ?_ ?_; rotate_left 1; (· simp only [Act.put, zzA, zz0, zzS]; rfl)) | (refine tr_y (v := ?_) (a' := ?_) rfl rfl (by rfl) (fun w' hw' => ?_) ?_ ?_; rotate_left 2; (· go_simp; with_reducible rfl); (· simp only [Act.put, zzA, zz0, zzS]; rfl)))
    refine tr_y (v := ?_) (a' := ?_) rfl rfl (by rfl) (fun w' hw' => ?_) ?_ ?_
    rotate_left 2
    · (refine (run_op_load rfl ?_ (l1 w' hw')).trans ?_; (· rfl); (· with_reducible rfl))
    · simp only [Act.put, zzA, zz0, zzS]; rfl
    (first | (refine tr_off (a' := ?_) rfl rfl (by rfl) ?_ ?_; rotate_left 1; (· simp only [Act.put, zzA, zz0, zzS]; rfl)) | (refine tr_y (v := ?_) (a' := ?_) rfl rfl (by rfl) (fun w' hw' => ?_) ?_ ?_; rotate_left 2; (· go_simp; with_reducible rfl); (· simp only [Act.put, zzA, zz0, zzS]; rfl)))
    (first | (refine tr_off (a' := ?_) rfl rfl (by rfl) ?_ ?_; rotate_left 1; (· simp only [Act.put, zzA, zz0, zzS]; rfl)) | (refine tr_y (v := ?_) (a' := ?_) rfl rfl (by rfl) (fun w' hw' => ?_) ?_ ?_; rotate_left 2; (· go_simp; with_reducible rfl); (· simp only [Act.put, zzA, zz0, zzS]; rfl)))
    refine tr_call (args := ?_) rfl Tryd.func33 (by kernel_rfl) rfl (by rfl) rfl rfl ?_ ?_
    rotate_left 1
    · go_simp; rfl
    (with_reducible refine (htp _ _ _ _ (hOa.ext eb0).buf (by decide) hYb0).mono ?_)
    rintro e qb1 ⟨u23, rfl, hO23, eb1⟩
    have hYb1 := hYb0.trans eb1
    refine ⟨_, _, rfl, hYb1, (by simp only [Act.put, zzA, zz0, zzS]; rfl), ?_⟩
    refine tr_call (args := ?_) rfl Tryd.func54 (by kernel_rfl) rfl (by rfl) rfl rfl ?_ ?_
    rotate_left 1
    · go_simp; rfl
    (with_reducible refine (hre _ _ _ _ hO23.buf (by decide) hYb1).mono ?_)
    rintro e qb2 ⟨u26, rfl, hO26, eb2⟩
    have hYb2 := hYb1.trans eb2
    refine ⟨_, _, rfl, hYb2, (by simp only [Act.put, zzA, zz0, zzS]; rfl), ?_⟩
    (first | (refine tr_off (a' := ?_) rfl rfl (by rfl) ?_ ?_; rotate_left 1; (· simp only [Act.put, zzA, zz0, zzS]; rfl)) | (refine tr_y (v := ?_) (a' := ?_) rfl rfl (by rfl) (fun w' hw' => ?_) ?_ ?_; rotate_left 2; (· go_simp; with_reducible rfl); (· simp only [Act.put, zzA, zz0, zzS]; rfl)))
    refine tr_end ?_
    refine NoPanic.normal ?_
    go_wp2_with fail
    rw [← HP.out]
    refine ⟨fun h => absurd hz h, fun _ => ⟨_, rfl, (hO26.re (by simp [ansB])).wide (by decide)⟩, hE.trans hYb2⟩
  · have h0' : (v != 0) = true := by simpa using h0
    go_enter Tryd.func25, Tryd.ntmps25
    go_upto_region 1 with fail
    rw [← hW]
    clear hW
    go_wp2_with (first | (refine wpList_load_by rfl rfl ?_ l0 ?_; (· rfl)) | (go_at_call 10; (with_reducible refine (hck _ hE).mono ?_); rintro e w1 ⟨rfl, hE1⟩))
    rw [← HP.out]
    exact ⟨fun _ => by rw [HV.out]; rfl, fun h => absurd (HV.out.symm.trans h) h0, hE.trans hE1⟩
end Go.Proofs.YtgfhbachgniipaaDoor

namespace Go.Proofs.YtgfhbachgniipaaDoor
open Go.RowKit
structure CmdInts (c : Cmd) : Prop where
  kind : intOk c.kind
  ex : intOk c.ex
  fr : intOk c.fr
  ct : intOk c.ct
  id : intOk c.id
  gr : intOk c.gr.r
  gu : intOk c.gr.u
  tid : intOk c.tok.id
  gs : ∀ g ∈ c.tok.gs, intOk g.r ∧ intOk g.u
  mac : c.tok.mac.length = 32
structure AnsInts (x : Ans) : Prop where
  code : intOk x.code
  num : intOk x.num
  tid : intOk x.tok.id
  gs : ∀ g ∈ x.tok.gs, intOk g.r ∧ intOk g.u
  mac : x.tok.mac.length = 32
  sh : ∀ s ∈ x.shown, intOk s.ver ∧ intOk s.pos ∧ intOk s.code
  en : ∀ e ∈ x.ents, (intOk e.no ∧ intOk e.clock ∧ intOk e.kind ∧ intOk e.code ∧ intOk e.id) ∧ e.sum.length = 32
theorem nm_le (l : List UInt8) (h : nm l = true) : l.length ≤ 24 := by
  unfold nm at h
  simp at h
  omega
theorem ba_len (s : ByteArray) : s.data.toList.length = s.size := by rw [Array.length_toList]; rfl
theorem ba_empty {s : ByteArray} (h : s.toList.isEmpty = true) : s.size = 0 := by
  have e := ba_len s
  rw [ByteArray.toList_eq] at h
  rw [List.isEmpty_iff.1 h] at e
  exact e.symm
theorem named_le (s : ByteArray) (m : Bool) (h : namedG s m = true) : s.size ≤ 24 := by
  have e := ba_len s
  unfold namedG at h
  rw [Bool.or_eq_true] at h
  rcases h with h | h
  · rw [Bool.and_eq_true] at h
    have := ba_empty h.2
    omega
  · have := nm_le _ h
    omega
theorem longS_le {s : ByteArray} (h : longS s = false) : s.size ≤ 24 := by unfold longS at h; simpa using h
theorem longB_le {p : List UInt8} (h : longB p = false) : p.length ≤ 256 := by unfold longB at h; simpa using h
theorem any_false {α : Type} {p : α → Bool} {l : List α} (h : l.any p = false) (x : α) (hx : x ∈ l) : p x = false := by
  rw [List.any_eq_false] at h
  simpa using h x hx
theorem tok_ok {t : Tok} (h : longT t = false) (hn : t.gs.length ≤ 6) (hid : intOk t.id) (hg : ∀ g ∈ t.gs, intOk g.r ∧ intOk g.u) (hm : t.mac.length = 32) : tokOk t := by
  unfold longT at h
  rw [Bool.or_eq_false_iff] at h
  refine ⟨longS_le h.1, hid, ⟨hn, fun g hx => ⟨(hg g hx).1, longS_le (any_false h.2 g hx), (hg g hx).2⟩⟩, hm⟩
theorem check_le {g : Grant} (h : checkG g.r g.p g.x g.u = 0) : g.p.size ≤ 24 := by
  unfold checkG at h
  split at h
  · split at h
    · rename_i h2
      unfold prefd at h2
      rw [Bool.or_eq_true] at h2
      rcases h2 with h2 | h2
      · have := ba_empty h2; omega
      · have := nm_le _ h2
        rw [ba_len] at this
        exact this
    · cases h
  · cases h
theorem zero_le {g : Grant} (h : zeroG g = true) : g.p.size ≤ 24 := by
  unfold zeroG at h
  rw [Bool.and_eq_true, Bool.and_eq_true] at h
  have := ba_empty h.2.1
  omega
theorem foreign_gr {c : Cmd} (h : foreignG c = false) (h6 : hasF c.kind 6 = false) : zeroG c.gr = true := by
  unfold foreignG at h
  have := any_false h 6 (by simp)
  simp only [h6, Bool.not_false, Bool.and_true] at this
  unfold giveG at this
  simpa using this
theorem cmd_fit {c : Cmd} (h : cmdG c = 0) (hi : CmdInts c) : CmdFit c := by
  unfold cmdG at h
  by_cases h1 : c.kind < 1 ∨ 8 < c.kind
  · rw [if_pos h1] at h; cases h
  rw [if_neg h1] at h
  by_cases h2 : (!namedG c.st (hasF c.kind 0) || !namedG c.su (hasF c.kind 1)) = true
  · rw [if_pos h2] at h; cases h
  rw [if_neg h2] at h
  split at h
  · cases h
  by_cases h4 : 4 < c.bodies.length ∨ 6 < c.tok.gs.length
  · rw [if_pos h4] at h; cases h
  rw [if_neg h4] at h
  by_cases h5 : (c.bodies.any longB || longT c.tok) = true
  · rw [if_pos h5] at h; cases h
  rw [if_neg h5] at h
  have h2' : (!namedG c.st (hasF c.kind 0) || !namedG c.su (hasF c.kind 1)) = false := by simpa using h2
  rw [Bool.or_eq_false_iff] at h2'
  have h5' : (c.bodies.any longB || longT c.tok) = false := by simpa using h5
  rw [Bool.or_eq_false_iff] at h5'
  have hp : c.gr.p.size ≤ 24 := by
    by_cases h6 : hasF c.kind 6 = true
    · by_cases h7 : checkG c.gr.r c.gr.p c.gr.x c.gr.u = 0
      · exact check_le h7
      · rw [if_pos ⟨h6, h7⟩] at h; exact absurd h h7
    · rw [if_neg (fun h => h6 h.1)] at h
      by_cases h8 : foreignG c = true
      · rw [if_pos h8] at h; cases h
      · exact zero_le (foreign_gr (by simpa using h8) (by simpa using h6))
  exact ⟨hi.kind, tok_ok h5'.2 (by omega) hi.tid hi.gs hi.mac, named_le _ _ (by simpa using h2'.1), named_le _ _ (by simpa using h2'.2), hi.ex, ⟨by omega, fun x hx => longB_le (any_false h5'.1 x hx)⟩, hi.fr, hi.ct, ⟨hi.gr, hp, hi.gu⟩, hi.id⟩
theorem ans_fit {x : Ans} (h : ansG x = 0) (hi : AnsInts x) : AnsFit x := by
  unfold ansG at h
  by_cases h1 : 64 < x.shown.length ∨ 64 < x.ents.length ∨ 6 < x.tok.gs.length
  · rw [if_pos h1] at h; cases h
  rw [if_neg h1] at h
  by_cases h2 : (longT x.tok || (x.shown.any longH || x.ents.any longE)) = true
  · rw [if_pos h2] at h; cases h
  have h2' : (longT x.tok || (x.shown.any longH || x.ents.any longE)) = false := by simpa using h2
  rw [Bool.or_eq_false_iff, Bool.or_eq_false_iff] at h2'
  refine ⟨hi.code, hi.num, ⟨by omega, fun s hs => ?_⟩, tok_ok h2'.1 (by omega) hi.tid hi.gs hi.mac, ⟨by omega, fun e he => ?_⟩⟩
  · have h3 := any_false h2'.2.1 s hs
    unfold longH at h3
    rw [Bool.or_eq_false_iff, Bool.or_eq_false_iff] at h3
    obtain ⟨h4, h5, h6⟩ := hi.sh s hs
    exact ⟨longS_le h3.1, longS_le h3.2.1, h4, h5, h6, longB_le h3.2.2⟩
  · have h3 := any_false h2'.2.2 e he
    unfold longE at h3
    rw [Bool.or_eq_false_iff] at h3
    obtain ⟨⟨h4, h5, h6, h7, h8⟩, h9⟩ := hi.en e he
    exact ⟨h4, h5, h6, h7, h8, longS_le h3.1, longS_le h3.2, h9⟩
theorem CmdFit.ints {c : Cmd} (h : CmdFit c) : CmdInts c := ⟨h.kind, h.ex, h.fr, h.ct, h.id, h.gr.1, h.gr.2.2, h.tok.2.1, fun g hg => ⟨(h.tok.2.2.1.2 g hg).1, (h.tok.2.2.1.2 g hg).2.2⟩, h.tok.2.2.2⟩
theorem AnsFit.ints {x : Ans} (h : AnsFit x) : AnsInts x := ⟨h.code, h.num, h.tok.2.1, fun g hg => ⟨(h.tok.2.2.1.2 g hg).1, (h.tok.2.2.1.2 g hg).2.2⟩, h.tok.2.2.2, fun s hs => ⟨(h.shown.2 s hs).2.2.1, (h.shown.2 s hs).2.2.2.1, (h.shown.2 s hs).2.2.2.2.1⟩, fun e he => ⟨⟨(h.ents.2 e he).1, (h.ents.2 e he).2.1, (h.ents.2 e he).2.2.1, (h.ents.2 e he).2.2.2.1, (h.ents.2 e he).2.2.2.2.1⟩, (h.ents.2 e he).2.2.2.2.2.2.2⟩⟩
theorem tokOk.fit {t : Tok} (h : tokOk t) : TokFit t := ⟨Nat.le_trans h.1 (by decide), h.2.1, Nat.le_trans h.2.2.1.1 (by decide), fun g hg => ⟨(h.2.2.1.2 g hg).1, Nat.le_trans (h.2.2.1.2 g hg).2.1 (by decide), (h.2.2.1.2 g hg).2.2⟩, h.2.2.2⟩
theorem CmdFit.fitL {c : Cmd} (h : CmdFit c) : CmdFitL c := ⟨h.tok.fit, h.kind, h.ex, h.fr, h.ct, h.id, h.gr.1, h.gr.2.2, Nat.le_trans h.st (by decide), Nat.le_trans h.su (by decide), Nat.le_trans h.gr.2.1 (by decide), Nat.le_trans h.bodies.1 (by decide), fun x hx => Nat.le_trans (h.bodies.2 x hx) (by decide)⟩
theorem AnsFit.fitL {x : Ans} (h : AnsFit x) : AnsFitL x := ⟨h.tok.fit, h.code, h.num, Nat.le_trans h.shown.1 (by decide), fun s hs => ⟨Nat.le_trans (h.shown.2 s hs).1 (by decide), Nat.le_trans (h.shown.2 s hs).2.1 (by decide), (h.shown.2 s hs).2.2.1, (h.shown.2 s hs).2.2.2.1, (h.shown.2 s hs).2.2.2.2.1, Nat.le_trans (h.shown.2 s hs).2.2.2.2.2 (by decide)⟩, Nat.le_trans h.ents.1 (by decide), fun e he => ⟨(h.ents.2 e he).1, (h.ents.2 e he).2.1, (h.ents.2 e he).2.2.1, (h.ents.2 e he).2.2.2.1, (h.ents.2 e he).2.2.2.2.1, Nat.le_trans (h.ents.2 e he).2.2.2.2.2.1 (by decide), Nat.le_trans (h.ents.2 e he).2.2.2.2.2.2.1 (by decide), (h.ents.2 e he).2.2.2.2.2.2.2⟩⟩
theorem endS_0 : endS ([], 0) = 0 := rfl
theorem endS_zero {s : St} (h : endS s = 0) : s = ([], 0) := by
  obtain ⟨l, e⟩ := s
  unfold endS at h
  by_cases h0 : 0 < l.length
  · rw [if_pos h0] at h; cases h
  · rw [if_neg h0] at h
    have : l = [] := List.eq_nil_of_length_eq_zero (by omega)
    rw [this, show e = 0 from h]
theorem endS_more {m : List UInt8} (hm : m ≠ []) : endS (m, 0) = 5 := by
  unfold endS
  rw [if_pos (List.length_pos_iff.2 hm)]
theorem c_back (c : Cmd) (h : cmdG c = 0) (hi : CmdInts c) : getC (cmdB c) = (c, 0) := by
  have h1 := cmd_codec.full c [] (cmd_fit h hi)
  rw [List.append_nil] at h1
  unfold getC
  rw [h1]
  simp only [endS_0, h]
  rfl
theorem c_more (c : Cmd) (h : cmdG c = 0) (hi : CmdInts c) (m : List UInt8) (hm : m ≠ []) : getC (cmdB c ++ m) = (zCmd, 5) := by
  have h1 := cmd_codec.full c m (cmd_fit h hi)
  unfold getC
  rw [h1]
  simp only [endS_more hm]
  rfl
theorem c_cut (c : Cmd) (h : cmdG c = 0) (hi : CmdInts c) (k : Nat) (hk : k < (cmdB c).length) : getC ((cmdB c).take k) = (zCmd, 4) := by
  have h1 := cmd_codec.cut c k (cmd_fit h hi) hk
  unfold getC
  rw [h1]
  rfl
theorem c_some {b : List UInt8} {c : Cmd} (h : getC b = (c, 0)) : cmdG c = 0 ∧ cmdB c = b ∧ CmdFit c := by
  unfold getC at h
  by_cases h1 : endS (cmdS (b, 0)).2 ≠ 0
  · rw [if_pos h1] at h
    simp only [Prod.mk.injEq] at h
    exact absurd h.2 h1
  · rw [if_neg h1] at h
    by_cases h2 : cmdG (cmdS (b, 0)).1 ≠ 0
    · rw [if_pos h2] at h
      simp only [Prod.mk.injEq] at h
      exact absurd h.2 h2
    · rw [if_neg h2] at h
      simp only [Prod.mk.injEq, and_true] at h
      have h3 := endS_zero (show endS (cmdS (b, 0)).2 = 0 from Decidable.not_not.1 h1)
      rw [h] at h2
      have h4 : cmdS (b, 0) = (c, ([], 0)) := by rw [← h, ← h3]
      obtain ⟨h5, h6⟩ := cmd_codec.inv _ _ _ h4
      simp only [Prod.mk.injEq, List.append_nil, and_true] at h5
      exact ⟨Decidable.not_not.1 h2, h5.symm, h6⟩
theorem c_none {b : List UInt8} {c : Cmd} {e : Int} (h : getC b = (c, e)) (he : e ≠ 0) : c = zCmd := by
  unfold getC at h
  split at h
  · simp only [Prod.mk.injEq] at h; exact h.1.symm
  · split at h
    · simp only [Prod.mk.injEq] at h; exact h.1.symm
    · simp only [Prod.mk.injEq] at h; exact absurd h.2.symm he
theorem zGr_ok : grOk zGrant := ⟨by decide, by decide, by decide⟩
theorem zTok_ok : tokOk zTok := ⟨by decide, by decide, ⟨by decide, fun g hg => by simp [zTok] at hg⟩, rfl⟩
theorem zCmd_fit : CmdFit zCmd := ⟨by decide, zTok_ok, by decide, by decide, by decide, ⟨by decide, fun x hx => by simp [zCmd] at hx⟩, by decide, by decide, zGr_ok, by decide⟩
theorem zAns_fit : AnsFit zAns := ⟨by decide, by decide, ⟨by decide, fun x hx => by simp [zAns] at hx⟩, zTok_ok, ⟨by decide, fun x hx => by simp [zAns] at hx⟩⟩
theorem c_fit (b : List UInt8) : CmdFit (getC b).1 := by
  obtain ⟨⟨c, e⟩, h⟩ : ∃ p, getC b = p := ⟨_, rfl⟩
  rw [h]
  by_cases he : e = 0
  · subst he
    exact (c_some h).2.2
  · rw [c_none h he]
    exact zCmd_fit
theorem a_back (x : Ans) (h : ansG x = 0) (hi : AnsInts x) : getA (ansB x) = (x, 0) := by
  have h1 := ans_codec.full x [] (ans_fit h hi)
  rw [List.append_nil] at h1
  unfold getA
  rw [h1]
  simp only [endS_0]
  rfl
theorem a_more (x : Ans) (h : ansG x = 0) (hi : AnsInts x) (m : List UInt8) (hm : m ≠ []) : getA (ansB x ++ m) = (zAns, 5) := by
  have h1 := ans_codec.full x m (ans_fit h hi)
  unfold getA
  rw [h1]
  simp only [endS_more hm]
  rfl
theorem a_cut (x : Ans) (h : ansG x = 0) (hi : AnsInts x) (k : Nat) (hk : k < (ansB x).length) : getA ((ansB x).take k) = (zAns, 4) := by
  have h1 := ans_codec.cut x k (ans_fit h hi) hk
  unfold getA
  rw [h1]
  rfl
theorem a_ok {x : Ans} (h : AnsFit x) : ansG x = 0 := by
  have h1 := h.shown.1
  have h2 := h.ents.1
  have h3 := h.tok.2.2.1.1
  have e1 : longT x.tok = false := by
    unfold longT
    rw [Bool.or_eq_false_iff]
    refine ⟨by unfold longS; simpa using h.tok.1, List.any_eq_false.2 fun g hg => ?_⟩
    unfold longS
    simpa using (h.tok.2.2.1.2 g hg).2.1
  have e2 : x.shown.any longH = false := List.any_eq_false.2 fun s hs => by
    obtain ⟨k1, k2, -, -, -, k3⟩ := h.shown.2 s hs
    unfold longH longS longB
    simp
    omega
  have e3 : x.ents.any longE = false := List.any_eq_false.2 fun s hs => by
    obtain ⟨-, -, -, -, -, k1, k2, -⟩ := h.ents.2 s hs
    unfold longE longS
    simp
    omega
  unfold ansG
  rw [if_neg (by omega), e1, e2, e3]
  rfl
theorem a_some {b : List UInt8} {x : Ans} (h : getA b = (x, 0)) : ansG x = 0 ∧ ansB x = b ∧ AnsFit x := by
  unfold getA at h
  by_cases h1 : endS (ansS (b, 0)).2 ≠ 0
  · rw [if_pos h1] at h
    simp only [Prod.mk.injEq] at h
    exact absurd h.2 h1
  · rw [if_neg h1] at h
    simp only [Prod.mk.injEq, and_true] at h
    have h3 := endS_zero (show endS (ansS (b, 0)).2 = 0 from Decidable.not_not.1 h1)
    have h4 : ansS (b, 0) = (x, ([], 0)) := by rw [← h, ← h3]
    obtain ⟨h5, h6⟩ := ans_codec.inv _ _ _ h4
    simp only [Prod.mk.injEq, List.append_nil, and_true] at h5
    exact ⟨a_ok h6, h5.symm, h6⟩
theorem a_none {b : List UInt8} {x : Ans} {e : Int} (h : getA b = (x, e)) (he : e ≠ 0) : x = zAns := by
  unfold getA at h
  split at h
  · simp only [Prod.mk.injEq] at h; exact h.1.symm
  · simp only [Prod.mk.injEq] at h; exact absurd h.2.symm he
theorem a_fit (b : List UInt8) : AnsFit (getA b).1 := by
  obtain ⟨⟨c, e⟩, h⟩ : ∃ p, getA b = p := ⟨_, rfl⟩
  rw [h]
  by_cases he : e = 0
  · subst he
    exact (a_some h).2.2
  · rw [a_none h he]
    exact zAns_fit
theorem flat_len {α : Type} (f : α → List UInt8) (n : Nat) : ∀ (l : List α), (∀ x ∈ l, (f x).length ≤ n) → (l.flatMap f).length ≤ l.length * n
  | [], _ => by simp
  | x :: l, h => by
    have h1 := h x (by simp)
    have h2 := flat_len f n l fun y hy => h y (by simp [hy])
    rw [List.flatMap_cons, List.length_append, List.length_cons, Nat.add_mul]
    omega
theorem gs_len {l : List Grant} (h : ∀ g ∈ l, grOk g) : (l.flatMap gB).length ≤ l.length * 56 := flat_len gB 56 l fun g hg => by
  have := (h g hg).2.1
  unfold gB
  simp only [List.length_append, num8_len, txtB_len]
  omega
theorem tok_len {t : Tok} (h : tokOk t) : (tokB t).length ≤ 416 := by
  have h1 := gs_len h.2.2.1.2
  have h2 := h.1
  have h3 := h.2.2.1.1
  have h4 := h.2.2.2
  unfold tokB
  simp only [List.length_append, num8_len, txtB_len, gsB] at *
  omega
theorem cmd_len {c : Cmd} (h : CmdFit c) : (cmdB c).length ≤ 32768 := by
  have h1 := tok_len h.tok
  have h2 := flat_len blobB 264 c.bodies fun x hx => by
    have := h.bodies.2 x hx
    unfold blobB
    simp only [List.length_append, num8_len]
    omega
  have h3 := h.bodies.1
  have h4 := h.st
  have h5 := h.su
  have h6 := h.gr.2.1
  unfold cmdB gB
  simp only [List.length_append, num8_len, txtB_len]
  omega
theorem ans_len {x : Ans} (h : AnsFit x) : (ansB x).length ≤ 32768 := by
  have h1 := tok_len h.tok
  have h2 := flat_len shB 352 x.shown fun s hs => by
    obtain ⟨k1, k2, -, -, -, k3⟩ := h.shown.2 s hs
    unfold shB blobB
    simp only [List.length_append, num8_len, txtB_len]
    omega
  have h3 := h.shown.1
  have h4 := flat_len enB 136 x.ents fun s hs => by
    obtain ⟨-, -, -, -, -, k1, k2, k3⟩ := h.ents.2 s hs
    unfold enB
    simp only [List.length_append, num8_len, txtB_len]
    omega
  have h5 := h.ents.1
  unfold ansB
  simp only [List.length_append, num8_len, txtB_len]
  omega
def app1 : Cmd := ⟨1, zTok, ⟨#[108, 111, 103]⟩, ⟨#[98, 111, 98]⟩, -1, [[7]], 0, 0, zGrant, 0⟩
def fol1 : Cmd := ⟨8, zTok, ⟨#[]⟩, ⟨#[]⟩, 0, [], 1, 0, zGrant, 0⟩
def cmd9 : Cmd := ⟨9, zTok, ⟨#[]⟩, ⟨#[]⟩, 0, [], 0, 0, zGrant, 0⟩
theorem app1_ok : cmdG app1 = 0 := by decide +kernel
theorem fol1_ok : cmdG fol1 = 0 := by decide +kernel
theorem cmd9_no : cmdG cmd9 = 2 := by decide +kernel
theorem zAns_ok : ansG zAns = 0 := by decide +kernel
theorem fol1_len : (cmdB fol1).length = 152 := by decide +kernel
theorem zAns_len : (ansB zAns).length = 88 := by decide +kernel
theorem app1_ints : CmdInts app1 := ⟨by decide, by decide, by decide, by decide, by decide, by decide, by decide, by decide, (fun g hg => by simp [app1, zTok] at hg), rfl⟩
theorem fol1_ints : CmdInts fol1 := ⟨by decide, by decide, by decide, by decide, by decide, by decide, by decide, by decide, (fun g hg => by simp [fol1, zTok] at hg), rfl⟩
theorem app1_fit : CmdFit app1 := cmd_fit app1_ok app1_ints
theorem fol1_fit : CmdFit fol1 := cmd_fit fol1_ok fol1_ints
end Go.Proofs.YtgfhbachgniipaaDoor
