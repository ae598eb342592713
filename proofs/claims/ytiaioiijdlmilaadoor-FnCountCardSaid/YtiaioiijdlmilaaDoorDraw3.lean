/-
  The draw of a number's word; lists of words compared. Condition: the arguments read as data.
-/
import Derived.Test.YtiaioiijdlmilaaDoorDraw2
import Derived.Test.YtiaioiijdlmilaaDoorCutL
namespace Go.Proofs.YtiaioiijdlmilaaDoor
open Go.RowKit Go.ChangeShapes Go.WideShapes Go.Deep
set_option linter.unusedSimpArgs false
set_option linter.unusedVariables false
set_option maxRecDepth 100000 in
set_option maxHeartbeats 4000000 in
theorem draw_number (l : List UInt8) (v : Value) (w : World) (hv : Sl false byS w 0 w.heap.size l v) : Calls Tryd.prog 25 #[v] w (WordP w) := by
  have hb0 : Below w.heap.size w (w.alloc (.cells #[.int .i64 0, .string ⟨#[]⟩] 29)) := (Below.refl _ _).alloc (Nat.le_refl _) _
  have R0 : Row (w.alloc (.cells #[.int .i64 0, .string ⟨#[]⟩] 29)) w.heap.size 29 #[.int .i64 0, .string ⟨#[]⟩] := Row.new w _ _
  have hv0 : Sl false byS (w.alloc (.cells #[.int .i64 0, .string ⟨#[]⟩] 29)) 0 (w.alloc (.cells #[.int .i64 0, .string ⟨#[]⟩] 29)).heap.size l v := (hv.below hb0 (Nat.le_refl _)).more (Nat.le_refl _) hb0.size
  go_enter Tryd.func25, Tryd.ntmps25
  go_wp2_with fail
  refine (open_ok l v _ hv0).mono ?_
  rintro e w1 ⟨g, l', rfl, hg, h1, b1⟩
  have hb1 := hb0.trans (b1.mono hb0.size)
  have R1 := R0.below b1 R0.lt
  have hwg : w.heap.size < g := Nat.lt_of_lt_of_le (by simp) hg
  clear R0
  go_wp2_with fail
  refine (pick_ok 3 (by omega) (by omega) l' g 0 _ h1 (by omega)).mono ?_
  rintro e w2 ⟨v2, p2, rfl, h2, hp2, hb2, k, hk, rfl⟩
  have hB2 := hb1.trans (hb2.1.mono (Nat.le_of_lt hwg))
  have R2 := R1.below hb2.1 hwg
  have hg2 := h2.lt
  clear R1
  have fin : ∀ (wX : World) (kd : Int) (tx : ByteArray), Below w.heap.size w wX → Row wX w.heap.size 29 #[.int .i64 0, .string ⟨#[]⟩] → I64 kd → tx.size ≤ 1001 →
      (wX.cell? ⟨w.heap.size, 0, none⟩ = some (.int .i64 0) ∧ wX.cell? ⟨w.heap.size, 1, none⟩ = some (.string ⟨#[]⟩) ∧ wX.frozen? ⟨w.heap.size, 0, none⟩ = false ∧ wX.frozen? ⟨w.heap.size, 1, none⟩ = false) ∧ (∀ u0, (wX.setCell ⟨w.heap.size, 0, none⟩ u0).cell? ⟨w.heap.size, 0, none⟩ = some u0) ∧ (∀ u0 u1, ((wX.setCell ⟨w.heap.size, 0, none⟩ u0).setCell ⟨w.heap.size, 1, none⟩ u1).cell? ⟨w.heap.size, 1, none⟩ = some u1) ∧ (∀ u0, (wX.setCell ⟨w.heap.size, 0, none⟩ u0).cell? ⟨w.heap.size, 1, none⟩ = some (.string ⟨#[]⟩)) ∧ WordP w (.returned (.agg #[.int .i64 kd, .string tx])) ((wX.setCell ⟨w.heap.size, 0, none⟩ (.int .i64 kd)).setCell ⟨w.heap.size, 1, none⟩ (.string tx)) := by
    intro wX kd tx hX RX hk ht
    exact ⟨⟨RX.cell 0, RX.cell 1, RX.frozen 0, RX.frozen 1⟩, fun u0 => (RX.set_ 0 u0).cell 0, fun u0 u1 => ((RX.set_ 0 u0).set_ 1 u1).cell 1, fun u0 => (RX.set_ 0 u0).cell 1, kd, tx, rfl, hk, ht, (hX.setCell (p := ⟨w.heap.size, 0, none⟩) (Nat.le_refl _) _).setCell (p := ⟨w.heap.size, 1, none⟩) (Nat.le_refl _) _⟩
  replace fin := Lib.hid fin
  by_cases k0 : k = 0
  · subst k0
    go_wp2_with fail
    refine (draw_word l v _ ((hv.below hB2 (Nat.le_refl _)).more (Nat.le_refl _) hB2.size)).mono ?_
    rintro e w4 ⟨kd, s, rfl, hkI, hs', b4⟩
    have hB4 := hB2.trans (b4.mono hB2.size)
    have R4 := R2.below b4 R2.lt
    have rl := R4.lt
    obtain ⟨⟨c0, c1, f0, f1⟩, z0, z1, z2, F⟩ := fin.out w4 kd s hB4 R4 hkI hs'
    replace z0 := Lib.hid z0
    replace z1 := Lib.hid z1
    replace z2 := z2 (.int .i64 kd)
    replace F := Lib.hid F
    go_wp2_with fail
    refine bodyPost_ret (v := .agg #[.int .i64 kd, .string s]) (by simp [results, Tryd.results25, go_sem, z0.out, z1.out]) rfl F.out
  · have q0 : ((k : Int) == 0) = false := by simpa using k0
    have L2 := lit_int w2 [2, 2, 2, 3, 1] (i64_of (by decide)) (by decide)
    go_wp2_with fail
    refine (num_ok [2, 2, 2, 3, 1] (by decide) (by decide) I64 (i64_of (by decide)) _ _ _ l' g p2 _ (h2.below ((Below.refl _ _).alloc (Nat.le_refl _) _) hg2) (by omega) L2 hg2 (Nat.le_refl _)).mono ?_
    rintro e w3 ⟨v3, p3, rfl, h3, hp3, hb3, kd, hkd, rfl⟩
    have hB3 := (hB2.alloc hB2.size (.cells ([2, 2, 2, 3, 1].map (Value.int .i64)).toArray 3)).trans (hb3.1.mono (Nat.le_of_lt hwg))
    have R3 := (R2.alloc (.cells ([2, 2, 2, 3, 1].map (Value.int .i64)).toArray 3)).below hb3.1 hwg
    clear R2 L2 hb3
    go_wp2_with fail
    refine (pick_ok 256 (by omega) (by omega) l' g p3 _ h3 (by omega)).mono ?_
    rintro e w4 ⟨v4, p4, rfl, h4, hp4, hb4, n4, hn4, rfl⟩
    have hB4 := hB3.trans (hb4.1.mono (Nat.le_of_lt hwg))
    have R4 := R3.below hb4.1 hwg
    clear R3 hb4
    go_wp2_with fail
    refine (dec_ok n4 (by omega) _).mono ?_
    rintro e w5 ⟨s5, hs5, rfl, b5⟩
    have hB5 := hB4.trans (b5.mono hB4.size)
    have R5 := R4.below b5 R4.lt
    have h5 := h4.below b5 h4.lt
    clear R4 b5
    go_wp2_with fail
    refine (pick_ok 400 (by omega) (by omega) l' g p4 _ h5 (by omega)).mono ?_
    rintro e w6 ⟨v6, p6, rfl, h6, hp6, hb6, n6, hn6, rfl⟩
    have hB6 := hB5.trans (hb6.1.mono (Nat.le_of_lt hwg))
    have R6 := R5.below hb6.1 hwg
    clear R5 hb6
    go_wp2_with fail
    refine (dec_ok n6 (by omega) _).mono ?_
    rintro e w7 ⟨s7, hs7, rfl, b7⟩
    have hB7 := hB6.trans (b7.mono hB6.size)
    have R7 := R6.below b7 R6.lt
    have h7 := h6.below b7 h6.lt
    have hg7 := h7.lt
    clear R6 b7
    have hall : ∀ s ∈ [s5, s7, (⟨#[48, 49]⟩ : ByteArray), ⟨#[45, 49]⟩, ⟨#[]⟩], Small1 s := by
      intro s hs
      simp only [List.mem_cons, List.not_mem_nil, or_false] at hs
      rcases hs with rfl | rfl | rfl | rfl | rfl
      · exact hs5.2
      · exact hs7.2
      · show (2 : Nat) ≤ 1001
        decide
      · show (2 : Nat) ≤ 1001
        decide
      · show (0 : Nat) ≤ 1001
        decide
    have L7 := lit_str w7 [s5, s7, (⟨#[48, 49]⟩ : ByteArray), ⟨#[45, 49]⟩, ⟨#[]⟩] (small_ml hall) (by simp)
    have HA := Lib.hid hall
    clear hall
    go_wp2_with fail
    refine (of_ok [s5, s7, (⟨#[48, 49]⟩ : ByteArray), ⟨#[45, 49]⟩, ⟨#[]⟩] (by simp) (by simp) Small1 HA.out _ _ _ l' g p6 _ (h7.below ((Below.refl _ _).alloc (Nat.le_refl _) _) hg7) (by omega) L7 hg7 (Nat.le_refl _)).mono ?_
    rintro e w8 ⟨v8, p8, rfl, h8, hp8, hb8, s, hs, rfl⟩
    have hB8 := (hB7.alloc hB7.size (.cells ([s5, s7, (⟨#[48, 49]⟩ : ByteArray), ⟨#[45, 49]⟩, ⟨#[]⟩].map Value.string).toArray 9)).trans (hb8.1.mono (Nat.le_of_lt hwg))
    have R8 := (R7.alloc (.cells ([s5, s7, (⟨#[48, 49]⟩ : ByteArray), ⟨#[45, 49]⟩, ⟨#[]⟩].map Value.string).toArray 9)).below hb8.1 hwg
    have rl := R8.lt
    clear R7 L7 hb8
    obtain ⟨⟨c0, c1, f0, f1⟩, z0, z1, z2, F⟩ := fin.out w8 kd s hB8 R8 hkd hs
    replace z0 := Lib.hid z0
    replace z1 := Lib.hid z1
    replace z2 := z2 (.int .i64 kd)
    replace F := Lib.hid F
    go_wp2_with fail
    refine bodyPost_ret (v := .agg #[.int .i64 kd, .string s]) (by simp [results, Tryd.results25, go_sem, z0.out, z1.out]) rfl F.out
set_option maxRecDepth 100000 in
set_option maxHeartbeats 4000000 in
theorem ww_ok (l : List WordD) (v u : Value) (w : World) (lo B lo' B' : Nat) (hB : B ≤ w.heap.size) (hC : B' ≤ w.heap.size) (hv : Sl false (wordS false) w lo B l v) (hu : Sl false (wordS false) w lo' B' l u) :
    Calls Tryd.prog 30 #[v, u] w (Yes w) := by
  obtain ⟨A, cap, rfl, hlc, hcm⟩ := hv.form
  obtain ⟨A2, cap2, rfl, hlc2, hcm2⟩ := hu.form
  go_enter Tryd.func30, Tryd.ntmps30
  go_wp2_with fail
  go_loopw [11] (fun i wr => ∃ k : Nat, k ≤ l.length ∧ i = .int .i64 k ∧ Below w.heap.size w wr) (fun i _ => l.length - (intOf i).toNat)
  case atStart => exact ⟨0, by omega, rfl, Below.refl _ _⟩
  case round =>
    obtain ⟨k, hk, rfl, hb⟩ := hrel
    have hsz := hb.size
    by_cases hkl : k < l.length
    · obtain ⟨b, o, kind, text, rfl, _, _, HL, _, _, c0, c1⟩ := word_get (hv.below hb hB) hkl
      obtain ⟨b2, o2, kind2, text2, rfl, _, _, HL2, _, _, d0, d1⟩ := word_get (hu.below hb hC) hkl
      have he := HL.out.symm.trans HL2.out
      injection he with e1 e2
      subst e1 e2
      have hki : (0 : Int) ≤ (k : Int) := by omega
      have hkn : (k : Int) < (l.length : Int) := by omega
      go_wp2_with fail
      go_quiet (fail)
      go_wp2_with fail
      go_roundw
      case rel => exact ⟨k + 1, by omega, by go_num, below_drewN hb _⟩
      case measure => simp [intOf]; omega
    · go_wp2_with fail
      go_ret
      exact ⟨rfl, hb⟩
end Go.Proofs.YtiaioiijdlmilaaDoor
