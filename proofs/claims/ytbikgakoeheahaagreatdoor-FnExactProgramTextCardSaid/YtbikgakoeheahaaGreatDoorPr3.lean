/-
  Programs, by the program: is a program one, how many statements it has, how deep they lie. Conditions: the argument reads as data of size at most 1048576; the tables lie.
-/
import Derived.Test.YtbikgakoeheahaaGreatDoorPr2
import Derived.Test.YtbikgakoeheahaaGreatDoorSt2
import Derived.RegionTactic
import Derived.ChangeAlike
namespace Go.Proofs.YtbikgakoeheahaaGreatDoor
open Go.RowKit Go.ChangeShapes Go.WideShapes Go.Deep
set_option linter.unusedVariables false
set_option linter.unusedSimpArgs false
/-- of the old blocks, only g and the one behind it may have changed, and none below -/
def But2 (g : Nat) (w w' : World) : Prop := Below g w w' ∧ ∀ b : Nat, g + 1 < b → b < w.heap.size → w'.heap[b]? = w.heap[b]?
theorem But2.of_below {g : Nat} {w w' : World} (hg : g < w.heap.size) (h : Below w.heap.size w w') : But2 g w w' := ⟨h.mono (by omega), fun b _ hb => h.block b hb⟩
theorem But2.refl (g : Nat) (w : World) : But2 g w w := ⟨Below.refl _ _, fun _ _ _ => rfl⟩
theorem But2.trans {g : Nat} {a b c : World} (h : But2 g a b) (k : But2 g b c) : But2 g a c :=
  ⟨h.1.trans k.1, fun x h1 h2 => (k.2 x h1 (Nat.lt_of_lt_of_le h2 h.1.size)).trans (h.2 x h1 h2)⟩
theorem But2.row {g : Nat} {w w' : World} {b : Nat} {t : TypeId} {cs : Array Value} (h : But2 g w w') (R : Row w b t cs) (hb : g + 1 < b) : Row w' b t cs := (h.2 b hb R.lt).trans R
def VisP (c dp : Nat) (g : Nat) (w : World) (e : Ending) (w' : World) : Prop :=
  e = .returned (.tuple #[]) ∧ Row w' g 3 #[.int .i64 (c : Int)] ∧ Row w' (g + 1) 3 #[.int .i64 (dp : Int)] ∧ But2 g w w'
set_option maxRecDepth 100000 in
set_option maxHeartbeats 4000000 in
theorem impl_measure_1 (u0 u1 u2 u3 u4 : Value) (x c dp g : Nat) (w : World) (hx : x ≤ 8388608) (hc : c ≤ 8388608) (hd : dp ≤ 8388608) (C : Row w g 3 #[.int .i64 (c : Int)]) (D : Row w (g + 1) 3 #[.int .i64 (dp : Int)]) :
    Calls Tryz.prog 58 #[.agg #[u0, u1, u2, u3, u4], .int .i64 (x : Int), .pointer (some ⟨g, 0, none⟩), .pointer (some ⟨g + 1, 0, none⟩)] w (VisP (c + 1) (max dp x) g w) := by
  have hgn : g ≠ g + 1 := by omega
  have hgw := D.lt
  have hgs : g ≠ w.heap.size := by omega
  have hgs1 : g + 1 ≠ w.heap.size := by omega
  have C0 : Row (w.alloc (.cells #[u0, u1, u2, u3, u4] 76)) g 3 #[.int .i64 (c : Int)] := C.alloc _
  have D0 : Row (w.alloc (.cells #[u0, u1, u2, u3, u4] 76)) (g + 1) 3 #[.int .i64 (dp : Int)] := D.alloc _
  have z0 : (w.alloc (.cells #[u0, u1, u2, u3, u4] 76)).cell? ⟨g, 0, none⟩ = some (.int .i64 (c : Int)) := C0.cell 0
  have z1 : (w.alloc (.cells #[u0, u1, u2, u3, u4] 76)).cell? ⟨g + 1, 0, none⟩ = some (.int .i64 (dp : Int)) := D0.cell 0
  have f0 : (w.alloc (.cells #[u0, u1, u2, u3, u4] 76)).frozen? ⟨g, 0, none⟩ = false := C0.frozen 0
  have f1 : (w.alloc (.cells #[u0, u1, u2, u3, u4] 76)).frozen? ⟨g + 1, 0, none⟩ = false := D0.frozen 0
  have fin : VisP (c + 1) (max dp x) g w (.returned (.tuple #[])) (((w.alloc (.cells #[u0, u1, u2, u3, u4] 76)).setCell ⟨g, 0, none⟩ (.int .i64 ((c : Int) + 1))).setCell ⟨g + 1, 0, none⟩ (.int .i64 (max (dp : Int) (x : Int)))) := by
    refine ⟨rfl, ?_, ?_, (((Below.refl g w).alloc (by omega) _).setCell (p := ⟨g, 0, none⟩) (Nat.le_refl g) _).setCell (p := ⟨g + 1, 0, none⟩) (Nat.le_succ g) _, fun b h1 h2 => (Below.heap_setCell _ _ _ b (by show b ≠ g + 1; omega)).trans ((Below.heap_setCell _ _ _ b (by show b ≠ g; omega)).trans (Below.heap_alloc _ _ b h2))⟩
    · exact (Below.heap_setCell _ _ _ g (by show g ≠ g + 1; omega)).trans (C0.set_ 0 (.int .i64 ((c : Int) + 1)))
    · have h := (show Row ((w.alloc (.cells #[u0, u1, u2, u3, u4] 76)).setCell ⟨g, 0, none⟩ (.int .i64 ((c : Int) + 1))) (g + 1) 3 #[.int .i64 (dp : Int)] from (Below.heap_setCell _ _ _ (g + 1) (by show g + 1 ≠ g; omega)).trans D0).set_ 0 (.int .i64 (max (dp : Int) (x : Int)))
      rw [show ((max dp x : Nat) : Int) = max (dp : Int) (x : Int) by omega]
      exact h
  replace fin := Lib.hid fin
  go_enter Tryz.func58, Tryz.ntmps58
  go_wp2_with fail
  go_end0
  exact fin.out
def VisAt (d : Nat) : Prop := ∀ (l : List St) (v : Value) (y c dp g : Nat) (w : World) (lo B : Nat) (_ : B ≤ g) (_ : Sl false (stS false d) w lo B l v) (_ : c + cnL l ≤ 4194304) (_ : y + cnL l ≤ 4194304) (_ : dp ≤ 4194304) (_ : y ≤ dp) (_ : Row w g 3 #[.int .i64 (c : Int)]) (_ : Row w (g + 1) 3 #[.int .i64 (dp : Int)]),
  Calls Tryz.prog 57 #[v, .int .i64 ((y : Int) + 1), .func (.func 58) #[] #[.pointer (some ⟨g, 0, none⟩), .pointer (some ⟨g + 1, 0, none⟩)]] w (VisP (c + cnL l) (max dp (y + nsL l)) g w)
set_option maxRecDepth 100000 in
set_option maxHeartbeats 4000000 in
theorem vis_step (d : Nat) (ih : ∀ d', d = d' + 1 → VisAt d') : VisAt d := by
  intro l v y c dp g w lo B hB hv hc hy hd hyd C D
  obtain ⟨A, p, hf, hl1, hl2⟩ := hv.form
  subst hf
  have hgw := D.lt
  go_enter Tryz.func57, Tryz.ntmps57
  go_wp2_with fail
  go_loopw [10] (fun i wr => ∃ k c1 d1 : Nat, k ≤ l.length ∧ i = .int .i64 (k : Int) ∧ c1 + cnL (l.drop k) = c + cnL l ∧ max d1 (y + nsL (l.drop k)) = max dp (y + nsL l) ∧ y ≤ d1 ∧ Row wr g 3 #[.int .i64 (c1 : Int)] ∧ Row wr (g + 1) 3 #[.int .i64 (d1 : Int)] ∧ But2 g w wr) (fun i _ => l.length - (intOf i).toNat)
  case atStart => exact ⟨0, c, dp, by omega, rfl, by rw [List.drop_zero], by rw [List.drop_zero], hyd, C, D, But2.refl _ _⟩
  case round =>
    obtain ⟨k, c1, d1, hk, rfl, HC, HD, hyd1, C1, D1, hb⟩ := hrel
    have hsz := hb.1.size
    have hnl := nsL_le l
    have hnd := nsL_le (l.drop k)
    by_cases hkl : k < l.length
    · obtain ⟨d', rfl⟩ := stS_pos hv (by omega)
      obtain ⟨b, o, op, name, args, v2, body, v3, els, v4, rfl, _, hbB, HL, g0, g1, g2, g3, g4, c0, e1, e2, e3, e4⟩ := st_get d' (hv.below hb.1 hB) hkl
      obtain ⟨A2, p2, hf, _, _⟩ := g2.form
      change _ = Value.slice A2 args.length p2 at hf
      subst hf
      obtain ⟨A3, p3, hf, _, _⟩ := g3.form
      change _ = Value.slice A3 body.length p3 at hf
      subst hf
      obtain ⟨A4, p4, hf, _, _⟩ := g4.form
      change _ = Value.slice A4 els.length p4 at hf
      subst hf
      have hkn : (k : Int) < (l.length : Int) := by omega
      have hki : (0 : Int) ≤ (k : Int) := by omega
      rw [drop_cons hkl HL.out, cnL, cnS] at HC
      rw [drop_cons hkl HL.out, nsL_cons, nsS_mk] at HD
      have hnb := nsL_le body
      have hne := nsL_le els
      have hcm : cnS (.mk op name args body els) ≤ cnL l := cnL_mem (HL.out ▸ List.getElem_mem hkl)
      rw [cnS] at hcm
      obtain ⟨cb, hcb⟩ : ∃ x, cnL body = x := ⟨_, rfl⟩
      obtain ⟨ce, hce⟩ : ∃ x, cnL els = x := ⟨_, rfl⟩
      obtain ⟨nb, hnb'⟩ : ∃ x, nsL body = x := ⟨_, rfl⟩
      obtain ⟨ne, hne'⟩ : ∃ x, nsL els = x := ⟨_, rfl⟩
      rw [hcb, hce] at HC hcm
      rw [hnb', hne'] at HD
      rw [hnb', hcb] at hnb
      rw [hne', hce] at hne
      have HB := Lib.hid hcb
      have HE := Lib.hid hce
      have NB := Lib.hid hnb'
      have NE := Lib.hid hne'
      clear hcb hce hnb' hne' hnd
      replace HC := Lib.hid HC
      replace HD := Lib.hid HD
      have hba : Below wr.heap.size wr (wr.alloc (.cells #[.int .i64 op, .string name, .slice A2 args.length p2, .slice A3 body.length p3, .slice A4 els.length p4] 76)) := (Below.refl _ _).alloc (Nat.le_refl _) _
      have RS : Row (wr.alloc (.cells #[.int .i64 op, .string name, .slice A2 args.length p2, .slice A3 body.length p3, .slice A4 els.length p4] 76)) wr.heap.size 76 #[.int .i64 op, .string name, .slice A2 args.length p2, .slice A3 body.length p3, .slice A4 els.length p4] := Row.new wr _ _
      have hgr : g + 1 < wr.heap.size := D1.lt
      have ba : But2 g wr (wr.alloc (.cells #[.int .i64 op, .string name, .slice A2 args.length p2, .slice A3 body.length p3, .slice A4 els.length p4] 76)) := But2.of_below (by omega) hba
      have hc1 : c1 ≤ 8388608 := by have := HC.out; omega
      have hd1 : d1 ≤ 8388608 := by have := HD.out; omega
      go_wp2_with fail
      refine (impl_measure_1 _ _ _ _ _ (y + 1) c1 d1 g _ (by omega) hc1 hd1 (C1.alloc _) (D1.alloc _)).mono ?_
      rintro e w3 ⟨rfl, C3, D3, b3⟩
      have b03 := ba.trans b3
      have R3 := b3.row RS (by omega)
      have y3 : w3.cell? ⟨wr.heap.size, 3, none⟩ = some (.slice A3 body.length p3) := R3.cell 3
      have y4 : w3.cell? ⟨wr.heap.size, 4, none⟩ = some (.slice A4 els.length p4) := R3.cell 4
      go_wp2_with fail
      refine (ih d' rfl body (.slice A3 body.length p3) (y + 1) (c1 + 1) (max d1 (y + 1)) g w3 lo B hB (g3.below b03.1 hB) (by rw [HB.out]; have := HC.out; omega) (by rw [HB.out]; have := HC.out; omega) (by have := HD.out; omega) (by omega) C3 D3).mono ?_
      rw [HB.out, NB.out]
      rintro e w4 ⟨rfl, C4, D4, b4⟩
      have b04 := b03.trans b4
      have R4 := b4.row R3 (by omega)
      clear y3 y4
      have y3 : w4.cell? ⟨wr.heap.size, 3, none⟩ = some (.slice A3 body.length p3) := R4.cell 3
      have y4 : w4.cell? ⟨wr.heap.size, 4, none⟩ = some (.slice A4 els.length p4) := R4.cell 4
      go_wp2_with fail
      refine (ih d' rfl els (.slice A4 els.length p4) (y + 1) (c1 + 1 + cb) (max (max d1 (y + 1)) (y + 1 + nb)) g w4 lo B hB (g4.below b04.1 hB) (by rw [HE.out]; have := HC.out; omega) (by rw [HE.out]; have := HC.out; omega) (by have := HD.out; omega) (by omega) C4 D4).mono ?_
      rw [HE.out, NE.out]
      rintro e w5 ⟨rfl, C5, D5, b5⟩
      go_wp2_with fail
      go_roundw
      case rel => exact ⟨k + 1, c1 + 1 + cb + ce, max (max (max d1 (y + 1)) (y + 1 + nb)) (y + 1 + ne), by omega, by go_num, by have := HC.out; omega, by have := HD.out; omega, by omega, C5, D5, hb.trans (b04.trans b5)⟩
      case measure => simp [intOf]; omega
    · have E1 : Hid (c + cnL l = c1) := by
        rw [List.drop_eq_nil_of_le (by omega), show cnL [] = 0 by rw [cnL]] at HC
        show _ = _
        omega
      have E2 : Hid (max dp (y + nsL l) = d1) := by
        rw [List.drop_eq_nil_of_le (by omega), show nsL [] = 0 by rw [nsL]] at HD
        show _ = _
        omega
      clear HC HD
      go_wp2_with fail
      go_end0
      exact ⟨rfl, by rw [E1.out]; exact C1, by rw [E2.out]; exact D1, hb⟩
theorem vis_ok : ∀ d : Nat, VisAt d
  | 0 => vis_step 0 (fun _ h => by cases h)
  | d + 1 => vis_step (d + 1) (fun d' h => by cases h; exact vis_ok d)
theorem vis_top (d : Nat) (l : List St) (v : Value) (c dp g : Nat) (w : World) (lo B : Nat) (hB : B ≤ g) (hv : Sl false (stS false d) w lo B l v) (hc : c + cnL l ≤ 4194304) (hd : dp ≤ 4194304) (C : Row w g 3 #[.int .i64 (c : Int)]) (D : Row w (g + 1) 3 #[.int .i64 (dp : Int)]) :
    Calls Tryz.prog 57 #[v, .int .i64 1, .func (.func 58) #[] #[.pointer (some ⟨g, 0, none⟩), .pointer (some ⟨g + 1, 0, none⟩)]] w (VisP (c + cnL l) (max dp (nsL l)) g w) := by
  have h := vis_ok d l v 0 c dp g w lo B hB hv hc (by omega) hd (Nat.zero_le _) C D
  rw [Nat.zero_add] at h
  exact h
set_option maxRecDepth 100000 in
set_option maxHeartbeats 4000000 in
theorem impl_measure (d : Nat) (fns : List FnD) (v0 : Value) (w : World) (lo B : Nat) (hB : B ≤ w.heap.size) (hN : fns.length + sumBy fnN fns ≤ 1048576) (h0 : Sl false (fnS false d) w lo B fns v0) :
    Calls Tryz.prog 34 #[.agg #[v0]] w (RetV (.tuple #[.int .i64 (cnP fns : Nat), .int .i64 (nsP fns : Nat)]) w) := by
  obtain ⟨A, p, hf, hl1, hl2⟩ := h0.form
  subst hf
  have hcs := cnP_size fns
  have hns := nsP_cn fns
  have hb0 : Below w.heap.size w (((w.alloc (.cells #[.slice A fns.length p] 30)).alloc (.cells #[.int .i64 0] 3)).alloc (.cells #[.int .i64 0] 3)) := (((Below.refl _ _).alloc (Nat.le_refl _) _).alloc (by simp) _).alloc (by simp; omega) _
  have RP0 : Row (((w.alloc (.cells #[.slice A fns.length p] 30)).alloc (.cells #[.int .i64 0] 3)).alloc (.cells #[.int .i64 0] 3)) w.heap.size 30 #[.slice A fns.length p] := by simpa using ((Row.new w _ _).alloc _).alloc _
  have RC0 : Row (((w.alloc (.cells #[.slice A fns.length p] 30)).alloc (.cells #[.int .i64 0] 3)).alloc (.cells #[.int .i64 0] 3)) (w.heap.size + 1) 3 #[.int .i64 0] := by simpa using (Row.new (w.alloc (.cells #[.slice A fns.length p] 30)) 3 #[.int .i64 0]).alloc (.cells #[.int .i64 0] 3)
  have RD0 : Row (((w.alloc (.cells #[.slice A fns.length p] 30)).alloc (.cells #[.int .i64 0] 3)).alloc (.cells #[.int .i64 0] 3)) (w.heap.size + 1 + 1) 3 #[.int .i64 0] := by simpa using Row.new ((w.alloc (.cells #[.slice A fns.length p] 30)).alloc (.cells #[.int .i64 0] 3)) 3 #[.int .i64 0]
  have HCS : Hid (cnP fns ≤ 1048576) := by show _ ≤ _; omega
  clear hcs
  replace hns := Lib.hid hns
  go_enter Tryz.func34, Tryz.ntmps34
  go_wp2_with fail
  go_loopw [9] (fun i wr => ∃ k c dp : Nat, k ≤ fns.length ∧ i = .int .i64 (k : Int) ∧ c + cnP (fns.drop k) = cnP fns ∧ max dp (nsP (fns.drop k)) = nsP fns ∧ Row wr w.heap.size 30 #[.slice A fns.length p] ∧ Row wr (w.heap.size + 1) 3 #[.int .i64 (c : Int)] ∧ Row wr (w.heap.size + 1 + 1) 3 #[.int .i64 (dp : Int)] ∧ Below w.heap.size w wr) (fun i _ => fns.length - (intOf i).toNat)
  case atStart => exact ⟨0, 0, 0, by omega, rfl, by rw [List.drop_zero]; omega, by rw [List.drop_zero]; omega, RP0, RC0, RD0, hb0⟩
  case round =>
    obtain ⟨k, c, dp, hk, rfl, HC, HD, RP, RC, RD, hb⟩ := hrel
    have hsz := hb.size
    have hlt := RD.lt
    by_cases hkl : k < fns.length
    · obtain ⟨b, o, name, params, v1, body, v2, rfl, _, hbB, HL, g0, g1, g2, c0, c1, c2⟩ := fn_get d (h0.below hb hB) hkl
      obtain ⟨A1, p1, hf, _, _⟩ := g1.form
      change _ = Value.slice A1 params.length p1 at hf
      subst hf
      obtain ⟨A2, p2, hf, _, _⟩ := g2.form
      change _ = Value.slice A2 body.length p2 at hf
      subst hf
      have hkn : (k : Int) < (fns.length : Int) := by omega
      have hki : (0 : Int) ≤ (k : Int) := by omega
      have hnb := nsL_cn body
      have hns1 := hns.out
      have hcs1 := HCS.out
      rw [drop_cons hkl HL.out, cnP_cons] at HC
      rw [drop_cons hkl HL.out, nsP_cons] at HD
      obtain ⟨cb, hcb⟩ : ∃ x, cnL body = x := ⟨_, rfl⟩
      obtain ⟨nb, hnb'⟩ : ∃ x, nsL body = x := ⟨_, rfl⟩
      rw [show (FnD.mk name params body).body = body from rfl, hcb] at HC
      rw [show (FnD.mk name params body).body = body from rfl, hnb'] at HD
      have hcc : c + cb ≤ 4194304 := by omega
      have hdd : dp ≤ 4194304 := by omega
      have HB := Lib.hid hcb
      have NB := Lib.hid hnb'
      clear hcb hnb' hnb hns1 hcs1
      replace HC := Lib.hid HC
      replace HD := Lib.hid HD
      have hba : Below wr.heap.size wr (wr.alloc (.cells #[.string name, .slice A1 params.length p1, .slice A2 body.length p2] 43)) := (Below.refl _ _).alloc (Nat.le_refl _) _
      go_wp2_with fail
      refine (vis_top d body (.slice A2 body.length p2) c dp (w.heap.size + 1) _ lo B (by omega) (g2.below hba (Nat.le_trans hB hsz)) (by rw [HB.out]; omega) hdd (RC.alloc _) (RD.alloc _)).mono ?_
      rw [HB.out, NB.out]
      rintro e w3 ⟨rfl, C3, D3, b3⟩
      have RP3 := (RP.alloc (.cells #[.string name, .slice A1 params.length p1, .slice A2 body.length p2] 43)).below b3.1 (by omega)
      have hb3 : Below w.heap.size w w3 := (hb.alloc hsz _).trans (b3.1.mono (by omega))
      go_wp2_with fail
      go_roundw
      case rel => exact ⟨k + 1, c + cb, max dp nb, by omega, by go_num, by have := HC.out; omega, by have := HD.out; omega, RP3, C3, D3, hb3⟩
      case measure => simp [intOf]; omega
    · obtain rfl : c = cnP fns := by rw [List.drop_eq_nil_of_le (by omega), show cnP [] = 0 from rfl] at HC; omega
      obtain rfl : dp = nsP fns := by rw [List.drop_eq_nil_of_le (by omega), show nsP [] = 0 from rfl] at HD; omega
      clear HC HD
      have y1 : wr.cell? ⟨w.heap.size + 1, 0, none⟩ = some (.int .i64 (cnP fns : Int)) := RC.cell 0
      have y2 : wr.cell? ⟨w.heap.size + 1 + 1, 0, none⟩ = some (.int .i64 (nsP fns : Int)) := RD.cell 0
      have f1 : wr.frozen? ⟨w.heap.size + 1, 0, none⟩ = false := RC.frozen 0
      have f2 : wr.frozen? ⟨w.heap.size + 1 + 1, 0, none⟩ = false := RD.frozen 0
      have hbf : ∀ u v, Below w.heap.size w ((wr.drew.setCell ⟨w.heap.size + 1, 0, none⟩ u).setCell ⟨w.heap.size + 1 + 1, 0, none⟩ v) := fun u v => (hb.drew.setCell (p := ⟨w.heap.size + 1, 0, none⟩) (Nat.le_succ _) u).setCell (p := ⟨w.heap.size + 1 + 1, 0, none⟩) (by show w.heap.size ≤ w.heap.size + 1 + 1; omega) v
      have hbg : ∀ u v, Below w.heap.size w ((wr.drew.setCell ⟨w.heap.size + 1 + 1, 0, none⟩ v).setCell ⟨w.heap.size + 1, 0, none⟩ u) := fun u v => (hb.drew.setCell (p := ⟨w.heap.size + 1 + 1, 0, none⟩) (by show w.heap.size ≤ w.heap.size + 1 + 1; omega) v).setCell (p := ⟨w.heap.size + 1, 0, none⟩) (Nat.le_succ _) u
      go_wp2_with fail
      go_region
      all_goals (go_wp2_with fail; refine bodyPost_ret (v := .tuple #[.int .i64 (cnP fns : Nat), .int .i64 (nsP fns : Nat)]) (by simp [results, Tryz.results34, go_sem, y1, y2, f1, f2]) rfl ?_; exact RetV.mk rfl rfl (by first | exact hbf _ _ | exact hbg _ _))
set_option maxRecDepth 100000 in
set_option maxHeartbeats 4000000 in
theorem impl_PV_1 (s : ByteArray) (w : World) (hs : s.size ≤ maxLen) (ht : Tabs w) : Calls Tryz.prog 32 #[.string s] w (RetV (.bool (!isName s)) w) := by
  go_enter Tryz.func32, Tryz.ntmps32
  go_wp2_with fail
  refine (impl_IsName s _ hs ht.1).mono ?_
  rintro e w1 ⟨rfl, b1⟩
  go_wp2_with fail
  go_ret
  exact RetV.mk rfl rfl b1
set_option maxRecDepth 100000 in
set_option maxHeartbeats 4000000 in
theorem pv_idx (l : List ByteArray) (v : Value) (w : World) (lo B : Nat) (hB : B ≤ w.heap.size) (hv : Sl false (strS false) w lo B l v) (ht : Tabs w) :
    Calls Tryz.prog 53 #[v, .func (.func 32) #[] #[]] w (IdxP (!l.all isName) w) := by
  obtain ⟨A, p, hf, hl1, hl2⟩ := hv.form
  subst hf
  have HT := Lib.hid ht
  clear ht
  go_enter Tryz.func53, Tryz.ntmps53
  go_wp2_with fail
  go_loopw [8] (fun i wr => ∃ k : Nat, k ≤ l.length ∧ i = .int .i64 k ∧ Hid (l.all isName = (l.drop k).all isName) ∧ Below w.heap.size w wr) (fun i _ => l.length - (intOf i).toNat)
  case atStart => exact ⟨0, by omega, rfl, (show _ = _ from rfl), Below.refl _ _⟩
  case round =>
    obtain ⟨k, hk, rfl, HA, hb⟩ := hrel
    have hsz := hb.size
    by_cases hkl : k < l.length
    · obtain ⟨b, o, a, rfl, _, hbB, HL, ga, c0⟩ := str_get (hv.below hb hB) hkl
      have hkn : (k : Int) < (l.length : Int) := by omega
      have hki : (0 : Int) ≤ (k : Int) := by omega
      go_wp2_with fail
      refine (impl_PV_1 a _ ga (HT.out.below hb (Nat.le_refl _))).mono ?_
      rintro e w3 ⟨rfl, x3⟩
      have hb3 : Below w.heap.size w w3 := hb.trans (x3.mono hsz)
      cases he : isName a
      case true =>
        have E3 : Hid (l.all isName = (l.drop (k + 1)).all isName) := by
          have h1 := HA.out
          rw [drop_cons hkl HL.out, List.all_cons, he, Bool.true_and] at h1
          exact h1
        clear HA
        go_wp2_with fail
        go_roundw
        case rel => exact ⟨k + 1, by omega, by go_num, E3, hb3⟩
        case measure => simp [intOf]; omega
      case false =>
        have E : Hid ((!l.all isName) = true) := by
          have h1 := HA.out
          rw [drop_cons hkl HL.out, List.all_cons, he, Bool.false_and] at h1
          show _ = _
          rw [h1]
          rfl
        clear HA
        go_wp2_with fail
        go_ret
        exact ⟨_, rfl, by rw [E.out]; exact decide_eq_true (by omega), hb3⟩
    · have E : Hid ((!l.all isName) = false) := by
        have h1 := HA.out
        rw [List.drop_eq_nil_of_le (by omega)] at h1
        show _ = _
        rw [h1]
        rfl
      clear HA
      go_wp2_with fail
      go_ret
      exact ⟨_, rfl, by rw [E.out]; rfl, hb⟩
theorem pv_cf (l : List ByteArray) (v : Value) (w : World) (lo B : Nat) (hB : B ≤ w.heap.size) (hv : Sl false (strS false) w lo B l v) (ht : Tabs w) :
    Calls Tryz.prog 31 #[v, .func (.func 32) #[] #[]] w (RetV (.bool (!l.all isName)) w) := by
  obtain ⟨A, p, hf, hl1, hl2⟩ := hv.form
  subst hf
  go_enter Tryz.func31, Tryz.ntmps31
  go_wp2_with fail
  refine (pv_idx l _ _ lo B hB hv ht).mono ?_
  rintro e w1 ⟨r, rfl, hr, b1⟩
  go_wp2_with fail
  go_ret
  exact RetV.mk (by first | rfl | (rw [hr] <;> rfl)) rfl b1
set_option maxRecDepth 100000 in
set_option maxHeartbeats 4000000 in
theorem impl_ProgramValid (d : Nat) (fns : List FnD) (v0 : Value) (w : World) (lo B : Nat) (hB : B ≤ w.heap.size) (hN : fns.length + sumBy fnN fns ≤ 1048576) (h0 : Sl false (fnS false d) w lo B fns v0) (ht : Tabs w) :
    Calls Tryz.prog 14 #[.agg #[v0]] w (RetV (.bool (prB ⟨fns⟩)) w) := by
  obtain ⟨A, p, hf, hl1, hl2⟩ := h0.form
  subst hf
  have hb0 : Below w.heap.size w (w.alloc (.cells #[.slice A fns.length p] 30)) := (Below.refl _ _).alloc (Nat.le_refl _) _
  have R0 : Row (w.alloc (.cells #[.slice A fns.length p] 30)) w.heap.size 30 #[.slice A fns.length p] := Row.new w _ _
  have HT := Lib.hid ht
  clear ht
  go_enter Tryz.func14, Tryz.ntmps14
  go_wp2_with fail
  refine (impl_within (fns.length : Int) 1 4 _).mono ?_
  rintro e w1 ⟨rfl, hw⟩
  subst hw
  by_cases hr : 1 ≤ fns.length ∧ fns.length ≤ 4
  case neg =>
    have q : inB (fns.length : Int) 1 4 = false := decide_eq_false (by omega)
    have E : Hid (prB ⟨fns⟩ = false) := by show _ = _; unfold prB; rw [decide_eq_false hr]; rfl
    rw [q]
    go_wp2_with fail
    go_ret
    exact RetV.mk (by rw [E.out] <;> rfl) rfl hb0
  have q : inB (fns.length : Int) 1 4 = true := decide_eq_true (by omega)
  rw [q]
  have HR := Lib.hid hr
  have E0 : Hid (prB ⟨fns⟩ = (fns.all fnB && decide (cnP fns ≤ 40))) := by show _ = _; unfold prB; rw [decide_eq_true hr]; rfl
  clear hr q
  go_wp2_with fail
  go_loopw [15] (fun i wr => ∃ k : Nat, k ≤ fns.length ∧ i = .int .i64 k ∧ Hid (fns.all fnB = (fns.drop k).all fnB) ∧ Row wr w.heap.size 30 #[.slice A fns.length p] ∧ Below w.heap.size w wr) (fun i _ => fns.length - (intOf i).toNat)
  case atStart => exact ⟨0, by omega, rfl, (show _ = _ from rfl), R0, hb0⟩
  case round =>
    obtain ⟨k, hk, rfl, HA, R, hb⟩ := hrel
    have hsz := hb.size
    have y0 : wr.cell? ⟨w.heap.size, 0, none⟩ = some (.slice A fns.length p) := R.cell 0
    by_cases hkl : k < fns.length
    · obtain ⟨b, o, name, params, v1, body, v2, rfl, _, hbB, HL, g0, g1, g2, c0, c1, c2⟩ := fn_get d (h0.below hb hB) hkl
      obtain ⟨A1, p1, hf, _, _⟩ := g1.form
      change _ = Value.slice A1 params.length p1 at hf
      subst hf
      obtain ⟨A2, p2, hf, _, _⟩ := g2.form
      change _ = Value.slice A2 body.length p2 at hf
      subst hf
      have hkn : (k : Int) < (fns.length : Int) := by omega
      have hki : (0 : Int) ≤ (k : Int) := by omega
      have hbf : Below wr.heap.size wr (wr.alloc (.cells #[.string name, .slice A1 params.length p1, .slice A2 body.length p2] 43)) := (Below.refl _ _).alloc (Nat.le_refl _) _
      have RF : Row (wr.alloc (.cells #[.string name, .slice A1 params.length p1, .slice A2 body.length p2] 43)) wr.heap.size 43 #[.string name, .slice A1 params.length p1, .slice A2 body.length p2] := Row.new wr _ _
      have hb2 : Below w.heap.size w (wr.alloc (.cells #[.string name, .slice A1 params.length p1, .slice A2 body.length p2] 43)) := hb.trans (hbf.mono hsz)
      go_wp2_with fail
      refine (impl_IsName name _ g0 (HT.out.below hb2 (Nat.le_refl _)).1).mono ?_
      rintro e w3 ⟨rfl, x3⟩
      have hb3 : Below w.heap.size w w3 := hb2.trans (x3.mono hb2.size)
      have R3 := RF.below x3 RF.lt
      have z0 : w3.cell? ⟨wr.heap.size, 0, none⟩ = some (.string name) := R3.cell 0
      have z1 : w3.cell? ⟨wr.heap.size, 1, none⟩ = some (.slice A1 params.length p1) := R3.cell 1
      have z2 : w3.cell? ⟨wr.heap.size, 2, none⟩ = some (.slice A2 body.length p2) := R3.cell 2
      cases hi : isName name
      case false =>
        have E : Hid (prB ⟨fns⟩ = false) := by
          have h1 := HA.out
          rw [drop_cons hkl HL.out, List.all_cons] at h1
          have h2 : fnB ⟨name, params, body⟩ = false := by unfold fnB; rw [hi]; simp
          rw [h2, Bool.false_and] at h1
          show _ = _
          rw [E0.out, h1]
          rfl
        clear HA
        go_wp2_with fail
        go_ret
        exact RetV.mk (by rw [E.out] <;> rfl) rfl hb3
      by_cases hp : params.length ≤ 3
      case neg =>
        have q : (3 : Int) < (params.length : Int) := by omega
        have E : Hid (prB ⟨fns⟩ = false) := by
          have h1 := HA.out
          rw [drop_cons hkl HL.out, List.all_cons] at h1
          have h2 : fnB ⟨name, params, body⟩ = false := by unfold fnB; rw [decide_eq_false hp]; simp
          rw [h2, Bool.false_and] at h1
          show _ = _
          rw [E0.out, h1]
          rfl
        clear HA
        go_wp2_with fail
        go_ret
        exact RetV.mk (by rw [E.out] <;> rfl) rfl hb3
      have q : decide ((3 : Int) < (params.length : Int)) = false := decide_eq_false (by omega)
      have HP := Lib.hid hp
      clear hp
      go_wp2_with fail
      have k3 : Below wr.heap.size wr w3 := hbf.trans (x3.mono hbf.size)
      refine (pv_cf params _ _ lo B (Nat.le_trans hB hb3.size) (g1.below k3 (Nat.le_trans hB hsz)) (HT.out.below hb3 (Nat.le_refl _))).mono ?_
      rintro e w4 ⟨rfl, x4⟩
      have hb4 : Below w.heap.size w w4 := hb3.trans (x4.mono hb3.size)
      have R4 := R3.below x4 R3.lt
      clear z0 z1 z2
      have z0 : w4.cell? ⟨wr.heap.size, 0, none⟩ = some (.string name) := R4.cell 0
      have z1 : w4.cell? ⟨wr.heap.size, 1, none⟩ = some (.slice A1 params.length p1) := R4.cell 1
      have z2 : w4.cell? ⟨wr.heap.size, 2, none⟩ = some (.slice A2 body.length p2) := R4.cell 2
      cases ha : params.all isName
      case false =>
        have E : Hid (prB ⟨fns⟩ = false) := by
          have h1 := HA.out
          rw [drop_cons hkl HL.out, List.all_cons] at h1
          have h2 : fnB ⟨name, params, body⟩ = false := by unfold fnB; rw [ha]; rfl
          rw [h2, Bool.false_and] at h1
          show _ = _
          rw [E0.out, h1]
          rfl
        clear HA
        go_wp2_with fail
        go_ret
        exact RetV.mk (by rw [E.out] <;> rfl) rfl hb4
      go_wp2_with fail
      have k4 : Below wr.heap.size wr w4 := k3.trans (x4.mono k3.size)
      refine (impl_blockOk 4 (by omega) d body _ 1 _ lo B (Nat.le_trans hB hb4.size) (g2.below k4 (Nat.le_trans hB hsz)) (by omega) (HT.out.below hb4 (Nat.le_refl _))).mono ?_
      rintro e w5 ⟨rfl, x5⟩
      have hb5 : Below w.heap.size w w5 := hb4.trans (x5.mono hb4.size)
      cases hbk : body.all (stB 4)
      case false =>
        have E : Hid (prB ⟨fns⟩ = false) := by
          have h1 := HA.out
          rw [drop_cons hkl HL.out, List.all_cons] at h1
          have h2 : fnB ⟨name, params, body⟩ = false := by unfold fnB; rw [hbk]; simp
          rw [h2, Bool.false_and] at h1
          show _ = _
          rw [E0.out, h1]
          rfl
        clear HA
        go_wp2_with fail
        go_ret
        exact RetV.mk (by rw [E.out] <;> rfl) rfl hb5
      have E3 : Hid (fns.all fnB = (fns.drop (k + 1)).all fnB) := by
        have h1 := HA.out
        have h2 : fnB ⟨name, params, body⟩ = true := by unfold fnB; rw [hi, ha, hbk, decide_eq_true HP.out]; rfl
        rw [drop_cons hkl HL.out, List.all_cons, h2, Bool.true_and] at h1
        exact h1
      clear HA
      go_wp2_with fail
      go_roundw
      case rel => exact ⟨k + 1, by omega, by go_num, E3, ((R.below hbf R.lt).below x3 (Nat.lt_of_lt_of_le R.lt hbf.size)).below x4 (Nat.lt_of_lt_of_le R.lt k3.size) |>.below x5 (Nat.lt_of_lt_of_le R.lt k4.size), hb5⟩
      case measure => simp [intOf]; omega
    · have E : Hid (prB ⟨fns⟩ = decide ((cnP fns : Int) ≤ 40)) := by
        have h1 := HA.out
        rw [List.drop_eq_nil_of_le (by omega), List.all_nil] at h1
        show _ = _
        rw [E0.out, h1, Bool.true_and]
        by_cases h : cnP fns ≤ 40
        · rw [decide_eq_true h, decide_eq_true (by omega)]
        · rw [decide_eq_false h, decide_eq_false (by omega)]
      clear HA
      go_wp2_with fail
      refine (impl_measure d fns _ _ lo B (Nat.le_trans hB hsz) hN (h0.below hb hB)).mono ?_
      rintro e w3 ⟨rfl, x3⟩
      have hb3 : Below w.heap.size w w3 := hb.trans (x3.mono hsz)
      go_wp2_with fail
      go_ret
      exact RetV.mk (by rw [E.out] <;> rfl) rfl hb3
end Go.Proofs.YtbikgakoeheahaaGreatDoor
