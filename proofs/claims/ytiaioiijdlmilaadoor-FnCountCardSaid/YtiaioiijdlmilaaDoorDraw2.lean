/-
  What the draws answer: words, lists of words. Condition: few numbers have been picked.
-/
import Derived.Test.YtiaioiijdlmilaaDoorDraw1
import Derived.Test.YtiaioiijdlmilaaDoorCut3
namespace Go.Proofs.YtiaioiijdlmilaaDoor
open Go.RowKit Go.ChangeShapes Go.WideShapes Go.Deep
set_option linter.unusedSimpArgs false
set_option linter.unusedVariables false
theorem own_but {g : Nat} {w w' : World} {base n size : Nat} {e : TypeId} {v : Value} {xs : List Value} (h : w.ownsRow base e size v n xs) (hb : But g w w') (hg : g < base) : w'.ownsRow base e size v n xs := by
  refine ⟨h.1, ?_⟩
  rcases h.2 with h1 | ⟨b, cap, cur, h1, h2, h3, h4⟩
  · exact Or.inl h1
  · have : b < w.heap.size := (Array.getElem?_eq_some_iff.1 h3).1
    exact Or.inr ⟨b, cap, cur, h1, h2, (hb.2 b (by omega) this).trans h3, h4⟩
theorem But.setNew {g : Nat} {w w' : World} (h : But g w w') {p : Addr} (hg : g < w.heap.size) (hp : w.heap.size ≤ p.block) (u : Value) : But g w (w'.setCell p u) := ⟨h.1.setCell (by omega) u, fun b h1 h2 => (Below.heap_setCell _ _ _ b (by omega)).trans (h.2 b h1 h2)⟩
theorem But.thenB {g : Nat} {w w1 w2 : World} (h : But g w w1) (k : Below w.heap.size w1 w2) (hg : g < w.heap.size) : But g w w2 := ⟨h.1.trans (k.mono (by omega)), fun b h1 h2 => (k.block b h2).trans (h.2 b h1 h2)⟩
set_option maxRecDepth 100000 in
set_option maxHeartbeats 8000000 in
theorem list_ok (l : List UInt8) (g p : Nat) (w : World) (h : RdAt w g l p) (hp : p ≤ 1000) :
    Calls Tryd.prog 53 #[.pointer (some ⟨g, 0, none⟩)] w (fun e w' => ∃ v p' lst, e = .returned v ∧ RdAt w' g l p' ∧ p' ≤ p + 150 ∧ But g w w' ∧ (∀ m, Sl m (wordS m) w' w.heap.size w'.heap.size lst v) ∧ lst.length ≤ 20 ∧ ∀ a ∈ lst, I64 a.kind ∧ a.text.size ≤ 1001) := by
  have hgw := h.lt
  obtain ⟨i0, hi, hz0, hz1, hz2⟩ := info_parts Tryd.info_Word
  go_enter Tryd.func53, Tryd.ntmps53
  go_wp2_with fail
  refine (pick_ok 4 (by omega) (by omega) l g p _ (h.below ((Below.refl _ _).alloc (Nat.le_refl _) _) hgw) (by omega)).mono ?_
  rintro e w2 ⟨v, p2, rfl, h2, hp2, hb2, k, hk, rfl⟩
  have own2 := own_but (own_emptyW w w.heap.size 29 (Nat.le_refl _)) hb2 hgw
  have hc2 : But g w w2 := ((But.refl w).alloc hgw _).trans hb2
  have hg2 := h2.lt
  clear hb2
  obtain ⟨bd, hbd⟩ : ∃ bd, ((k : Int) == 0) = bd := ⟨_, rfl⟩
  have L2 := lit_int w2 [3, 6, 10, 1, 0, 20] (i64_of (by decide)) (by decide)
  go_wp2_with fail
  refine (num_ok [3, 6, 10, 1, 0, 20] (by decide) (by decide) (fun x => ∃ n : Nat, x = (n : Int) ∧ n ≤ 20) (by
    intro s hs
    refine ⟨s.toNat, ?_, ?_⟩ <;> (simp at hs; omega)) _ _ _ l g p2 _ (h2.below ((Below.refl _ _).alloc (Nat.le_refl _) _) hg2) (by omega) L2 hg2 (Nat.le_refl _)).mono ?_
  rintro e w3 ⟨v, p3, rfl, h3, hp3, hb3, x, ⟨n, rfl, hn⟩, rfl⟩
  have hc3 : But g w w3 := (hc2.alloc hgw _).trans hb3
  have own3 := own_but (own2.alloc (.cells #[.int .i64 3, .int .i64 6, .int .i64 10, .int .i64 1, .int .i64 0, .int .i64 20] 3)) hb3 hgw
  clear hb3 L2 own2 hc2
  go_wp2_with fail
  go_loopw [3, 5] (fun v t wr => ∃ (j p' : Nat) (lst : List WordD), wr.ownsRow w.heap.size 29 2 v lst.length (wcells lst) ∧ t = .int .i64 (j : Int) ∧ j ≤ 20 ∧ lst.length + j ≤ 20 ∧ Hid (∀ a ∈ lst, I64 a.kind ∧ a.text.size ≤ 1001) ∧ p' + j * 7 ≤ p + 142 ∧ RdAt wr g l p' ∧ But g w wr) (fun _ t _ => (intOf t).toNat)
  case atStart => exact ⟨n, p3, [], own3, rfl, hn, by simp; omega, (fun a h => by cases h), by omega, h3, hc3⟩
  case round =>
    obtain ⟨j, p', lst, own, rfl, hj, hlj, HI, hp', hR, hB⟩ := hrel
    have hgr := hR.lt
    have szr := hB.1.size
    by_cases hj0 : 0 < j
    · have hj1 : (0 : Int) < (j : Int) := by omega
      go_wp2_with fail
      refine (some_ok l g p' _ hR (by omega)).mono ?_
      rintro e w4 ⟨v, p4, rfl, h4, hp4, hb4, s, hs, rfl⟩
      have hs' : s.size ≤ 1001 := hs.2
      have hs1 : 0 < s.size := hs.1
      have own4 := own_but own hb4 hgw
      have hc4 := hB.trans hb4
      have hg4 := h4.lt
      clear own hb4
      go_wp2_with fail
      refine (spec_l1Word s _ (Nat.le_trans hs' (by decide)) hs1).mono ?_
      obtain ⟨kd, hkd⟩ : ∃ kd, kindS s[0] s = kd := ⟨_, rfl⟩
      have hkI : I64 kd := by rw [← hkd]; exact kindS_I64 _ _
      rw [hkd]
      clear hkd
      rintro e w5 ⟨rfl, b5⟩
      have ownX := own_belowW own4 b5 (Nat.le_refl _)
      have hcX := hc4.trans (But.of_below hg4 b5)
      have hqX : But g w5 (w5.alloc (.cells #[.int .i64 kd, .string s] 29)) := (But.refl w5).alloc (Nat.lt_of_lt_of_le hg4 b5.size) _
      have own5 := (own_belowW own4 b5 (Nat.le_refl _)).alloc (.cells #[.int .i64 kd, .string s] 29)
      have hc5 := (hc4.trans (But.of_below hg4 b5)).alloc hgw (.cells #[.int .i64 kd, .string s] 29)
      have h5 : RdAt (w5.alloc (.cells #[.int .i64 kd, .string s] 29)) g l p4 := (h4.below b5 hg4).below ((Below.refl _ _).alloc (Nat.le_refl _) _) (Nat.lt_of_lt_of_le hg4 b5.size)
      have R5 : Row (w5.alloc (.cells #[.int .i64 kd, .string s] 29)) w5.heap.size 29 #[.int .i64 kd, .string s] := Row.new _ _ _
      have hggb : g < w5.heap.size := Nat.lt_of_lt_of_le hg4 b5.size
      have hwgb : w.heap.size ≤ w5.heap.size := Nat.le_trans hc4.1.size b5.size
      clear own4 hc4
      cases bd
      case false =>
        have y0 : (w5.alloc (.cells #[.int .i64 kd, .string s] 29)).cell? ⟨w5.heap.size, 0, none⟩ = some (.int .i64 kd) := R5.cell 0
        have y1 : (w5.alloc (.cells #[.int .i64 kd, .string s] 29)).cell? ⟨w5.heap.size, 1, none⟩ = some (.string s) := R5.cell 1
        have szB := hc5.1.size
        have HI' : Hid (∀ a ∈ lst ++ [⟨kd, s⟩], I64 a.kind ∧ a.text.size ≤ 1001) := by
          intro a ha
          rcases List.mem_append.1 ha with h | h
          · exact HI.out a h
          · obtain rfl := List.mem_singleton.1 h
            exact ⟨hkI, hs'⟩
        have hRl := h5.lt
        have szW : w.heap.size ≤ (w5.alloc (.cells #[.int .i64 kd, .string s] 29)).heap.size := szB
        have szS : w.heap.size ≤ (w5.heap.size + 1) := by simpa using szB
        go_wp2_with (at_builtin; refine wpList_append_own_at _ rfl _ _ 25 rfl w.heap.size 29 i0 (.agg #[.int .i64 0, .string ⟨#[]⟩]) 2 24 Tryd.underlying25 hi hz0 hz1 hz2 rfl (by decide) _ _ _ rfl (own5.alloc _) ⟨(w5.heap.size + 1), 0, none⟩ 1 1 [.int .i64 kd, .string s] rfl rfl ?c1 ?c2 ?c3 ?c4 ?c5 ?_)
        case c1 => first | exact cells_row_new (w5.alloc (.cells #[.int .i64 kd, .string s] 29)) [.int .i64 kd, .string s] _ | simpa using cells_row_new (w5.alloc (.cells #[.int .i64 kd, .string s] 29)) [.int .i64 kd, .string s] _
        case c2 => first | rfl | (intro u hu; simp at hu; rcases hu with rfl | rfl <;> rfl)
        case c3 => unfold maxLen; omega
        case c4 => omega
        case c5 => simp; omega
        intro v4 w4 own4 hgrow _ hat
        have hg4 : Below w.heap.size ((w5.alloc (.cells #[.int .i64 kd, .string s] 29)).alloc (.cells #[.int .i64 kd, .string s] 29)) w4 := (Below.refl _ _).grown hgrow (by simp; omega) (fun r hr => own_geW own5 hr)
        have hB4 : But g w w4 := (hc5.alloc hgw _).thenB hg4 hgw
        have own4' : w4.ownsRow w.heap.size 29 2 v4 (lst ++ [(⟨kd, s⟩ : WordD)]).length (wcells (lst ++ [⟨kd, s⟩])) := by
          rw [List.length_append, wcells_snoc]
          exact own4
        have hR4 : RdAt w4 g l p4 := (h5.below ((Below.refl _ _).alloc (Nat.le_refl _) _) hRl).below hg4 hgw
        clear own4 hgrow hat
        go_wp2_with fail
        go_roundw
        case rel => exact ⟨j - 1, p4, lst ++ [⟨kd, s⟩], own4', by go_num, by omega, by simp; omega, HI', by omega, hR4, hB4⟩
        case measure => simp [intOf]; omega
      case true =>
        go_wp2_with fail
        refine (pick_ok 6 (by omega) (by omega) l g p4 _ h5 (by omega)).mono ?_
        rintro e w6 ⟨v, p6, rfl, h6, hp6, hb6, k6, hk6, rfl⟩
        have own6 := own_but own5 hb6 hgw
        have hc6 := hc5.trans hb6
        have R6 := hb6.row R5 hggb
        have hg6 := h6.lt
        clear own5 hc5 R5
        by_cases k0 : k6 = 0
        · subst k0
          have L6 := lit_int w6 [0, 1, 2, 3, 4, 5, -1] (i64_of (by decide)) (by decide)
          go_wp2_with fail
          refine (num_ok [0, 1, 2, 3, 4, 5, -1] (by decide) (by decide) I64 (i64_of (by decide)) _ _ _ l g p6 _ (h6.below ((Below.refl _ _).alloc (Nat.le_refl _) _) hg6) (by omega) L6 hg6 (Nat.le_refl _)).mono ?_
          rintro e w7 ⟨v, p7, rfl, h7, hp7, hb7, x7, hx7, rfl⟩
          have own7 := own_but (own6.alloc (.cells #[.int .i64 0, .int .i64 1, .int .i64 2, .int .i64 3, .int .i64 4, .int .i64 5, .int .i64 (-1)] 3)) hb7 hgw
          have hc7 := (hc6.alloc hgw _).trans hb7
          have R7 := hb7.row (R6.alloc _) hggb
          have hg7 := h7.lt
          clear own6 hc6 R6 L6
          go_wp2_with fail
          refine (bad_ok l g p7 _ h7 (by omega)).mono ?_
          rintro e w8 ⟨v, p8, rfl, h8, hp8, hb8, t8, ht8, rfl⟩
          have hq8 := (((hqX.trans hb6).alloc hggb (.cells #[.int .i64 0, .int .i64 1, .int .i64 2, .int .i64 3, .int .i64 4, .int .i64 5, .int .i64 (-1)] 3)).trans hb7).trans hb8
          have hq9 := (hq8.setNew (p := ⟨w5.heap.size, 0, none⟩) hggb (Nat.le_refl _) (.int .i64 x7)).setNew (p := ⟨w5.heap.size, 1, none⟩) hggb (Nat.le_refl _) (.string t8)
          have own9 := own_but ownX hq9 hgw
          have hc9 := hcX.trans hq9
          have R8 := hb8.row R7 hggb
          have f0 : w8.frozen? ⟨w5.heap.size, 0, none⟩ = false := R8.frozen 0
          have f1 : w8.frozen? ⟨w5.heap.size, 1, none⟩ = false := R8.frozen 1
          have x0 : w8.cell? ⟨w5.heap.size, 0, none⟩ = some (.int .i64 kd) := R8.cell 0
          have x1 : w8.cell? ⟨w5.heap.size, 1, none⟩ = some (.string s) := R8.cell 1
          have ht8' : t8.size ≤ 1001 := ht8
          have R9 := (R8.set_ 0 (.int .i64 x7)).set_ 1 (.string t8)
          have z1 : (w8.setCell ⟨w5.heap.size, 0, none⟩ (.int .i64 x7)).cell? ⟨w5.heap.size, 1, none⟩ = some (.string s) := (R8.set_ 0 (.int .i64 x7)).cell 1
          have h9 : RdAt ((w8.setCell ⟨w5.heap.size, 0, none⟩ (.int .i64 x7)).setCell ⟨w5.heap.size, 1, none⟩ (.string t8)) g l p8 := h8.below (B := w5.heap.size) (((Below.refl _ _).setCell (p := ⟨w5.heap.size, 0, none⟩) (Nat.le_refl _) _).setCell (p := ⟨w5.heap.size, 1, none⟩) (Nat.le_refl _) _) hggb
          clear own7 hc7 R7 R8
          have y0 : ((w8.setCell ⟨w5.heap.size, 0, none⟩ (.int .i64 x7)).setCell ⟨w5.heap.size, 1, none⟩ (.string t8)).cell? ⟨w5.heap.size, 0, none⟩ = some (.int .i64 x7) := R9.cell 0
          have y1 : ((w8.setCell ⟨w5.heap.size, 0, none⟩ (.int .i64 x7)).setCell ⟨w5.heap.size, 1, none⟩ (.string t8)).cell? ⟨w5.heap.size, 1, none⟩ = some (.string t8) := R9.cell 1
          have szB := hc9.1.size
          have HI' : Hid (∀ a ∈ lst ++ [⟨x7, t8⟩], I64 a.kind ∧ a.text.size ≤ 1001) := by
            intro a ha
            rcases List.mem_append.1 ha with h | h
            · exact HI.out a h
            · obtain rfl := List.mem_singleton.1 h
              exact ⟨hx7, ht8'⟩
          have hRl := h9.lt
          have szW : w.heap.size ≤ ((w8.setCell ⟨w5.heap.size, 0, none⟩ (.int .i64 x7)).setCell ⟨w5.heap.size, 1, none⟩ (.string t8)).heap.size := szB
          have szS : w.heap.size ≤ w8.heap.size := by simpa using szB
          go_wp2_with (at_builtin; refine wpList_append_own_at _ rfl _ _ 25 rfl w.heap.size 29 i0 (.agg #[.int .i64 0, .string ⟨#[]⟩]) 2 24 Tryd.underlying25 hi hz0 hz1 hz2 rfl (by decide) _ _ _ rfl (own9.alloc _) ⟨w8.heap.size, 0, none⟩ 1 1 [.int .i64 x7, .string t8] rfl rfl ?c1 ?c2 ?c3 ?c4 ?c5 ?_)
          case c1 => first | exact cells_row_new ((w8.setCell ⟨w5.heap.size, 0, none⟩ (.int .i64 x7)).setCell ⟨w5.heap.size, 1, none⟩ (.string t8)) [.int .i64 x7, .string t8] _ | simpa using cells_row_new ((w8.setCell ⟨w5.heap.size, 0, none⟩ (.int .i64 x7)).setCell ⟨w5.heap.size, 1, none⟩ (.string t8)) [.int .i64 x7, .string t8] _
          case c2 => first | rfl | (intro u hu; simp at hu; rcases hu with rfl | rfl <;> rfl)
          case c3 => unfold maxLen; omega
          case c4 => omega
          case c5 => simp; omega
          intro v4 w4 own4 hgrow _ hat
          have hg4 : Below w.heap.size (((w8.setCell ⟨w5.heap.size, 0, none⟩ (.int .i64 x7)).setCell ⟨w5.heap.size, 1, none⟩ (.string t8)).alloc (.cells #[.int .i64 x7, .string t8] 29)) w4 := (Below.refl _ _).grown hgrow (by simp; omega) (fun r hr => own_geW own9 hr)
          have hB4 : But g w w4 := (hc9.alloc hgw _).thenB hg4 hgw
          have own4' : w4.ownsRow w.heap.size 29 2 v4 (lst ++ [(⟨x7, t8⟩ : WordD)]).length (wcells (lst ++ [⟨x7, t8⟩])) := by
            rw [List.length_append, wcells_snoc]
            exact own4
          have hR4 : RdAt w4 g l p8 := (h9.below ((Below.refl _ _).alloc (Nat.le_refl _) _) hRl).below hg4 hgw
          clear own4 hgrow hat
          go_wp2_with fail
          go_roundw
          case rel => exact ⟨j - 1, p8, lst ++ [⟨x7, t8⟩], own4', by go_num, by omega, by simp; omega, HI', by omega, hR4, hB4⟩
          case measure => simp [intOf]; omega
        · have q0 : ((k6 : Int) == 0) = false := by simpa using k0
          have y0 : w6.cell? ⟨w5.heap.size, 0, none⟩ = some (.int .i64 kd) := R6.cell 0
          have y1 : w6.cell? ⟨w5.heap.size, 1, none⟩ = some (.string s) := R6.cell 1
          have szB := hc6.1.size
          have HI' : Hid (∀ a ∈ lst ++ [⟨kd, s⟩], I64 a.kind ∧ a.text.size ≤ 1001) := by
            intro a ha
            rcases List.mem_append.1 ha with h | h
            · exact HI.out a h
            · obtain rfl := List.mem_singleton.1 h
              exact ⟨hkI, hs'⟩
          have hRl := h6.lt
          have szW : w.heap.size ≤ w6.heap.size := szB
          have szS : w.heap.size ≤ w6.heap.size := by simpa using szB
          go_wp2_with (at_builtin; refine wpList_append_own_at _ rfl _ _ 25 rfl w.heap.size 29 i0 (.agg #[.int .i64 0, .string ⟨#[]⟩]) 2 24 Tryd.underlying25 hi hz0 hz1 hz2 rfl (by decide) _ _ _ rfl (own6.alloc _) ⟨w6.heap.size, 0, none⟩ 1 1 [.int .i64 kd, .string s] rfl rfl ?c1 ?c2 ?c3 ?c4 ?c5 ?_)
          case c1 => first | exact cells_row_new w6 [.int .i64 kd, .string s] _ | simpa using cells_row_new w6 [.int .i64 kd, .string s] _
          case c2 => first | rfl | (intro u hu; simp at hu; rcases hu with rfl | rfl <;> rfl)
          case c3 => unfold maxLen; omega
          case c4 => omega
          case c5 => simp; omega
          intro v4 w4 own4 hgrow _ hat
          have hg4 : Below w.heap.size (w6.alloc (.cells #[.int .i64 kd, .string s] 29)) w4 := (Below.refl _ _).grown hgrow (by simp; omega) (fun r hr => own_geW own6 hr)
          have hB4 : But g w w4 := (hc6.alloc hgw _).thenB hg4 hgw
          have own4' : w4.ownsRow w.heap.size 29 2 v4 (lst ++ [(⟨kd, s⟩ : WordD)]).length (wcells (lst ++ [⟨kd, s⟩])) := by
            rw [List.length_append, wcells_snoc]
            exact own4
          have hR4 : RdAt w4 g l p6 := (h6.below ((Below.refl _ _).alloc (Nat.le_refl _) _) hRl).below hg4 hgw
          clear own4 hgrow hat
          go_wp2_with fail
          go_roundw
          case rel => exact ⟨j - 1, p6, lst ++ [⟨kd, s⟩], own4', by go_num, by omega, by simp; omega, HI', by omega, hR4, hB4⟩
          case measure => simp [intOf]; omega
    · have hj1 : decide ((0 : Int) < (j : Int)) = false := by simp; omega
      clear hbd
      go_wp2_with fail
      go_ret
      exact ⟨_, p', lst, rfl, hR, by omega, hB, fun m => Sl.of_ownW own (fun a ha => ⟨(HI.out a ha).1, Nat.le_trans (HI.out a ha).2 (by decide)⟩) (Nat.le_refl _) m, by omega, HI.out⟩
theorem draw_text (l : List UInt8) (v : Value) (w : World) (hv : Sl false byS w 0 w.heap.size l v) :
    Calls Tryd.prog 28 #[v] w (fun e w' => ∃ s, s.size ≤ 50000 ∧ e = .returned (.string s) ∧ Below w.heap.size w w') := by
  go_enter Tryd.func28, Tryd.ntmps28
  go_wp2_with fail
  refine (open_ok l v _ hv).mono ?_
  rintro e w1 ⟨g, l', rfl, hg, h1, b1⟩
  go_wp2_with fail
  refine (text_ok l' g 0 _ h1 (by omega)).mono ?_
  rintro e w2 ⟨v, p, rfl, h2, hp2, hb2, s, hs, rfl⟩
  go_wp2_with fail
  go_ret
  exact ⟨s, hs, rfl, b1.trans (hb2.1.mono hg)⟩
theorem draw_plain (l : List UInt8) (v : Value) (w : World) (hv : Sl false byS w 0 w.heap.size l v) :
    Calls Tryd.prog 31 #[v] w (fun e w' => ∃ s, s.size ≤ 50000 ∧ e = .returned (.string s) ∧ Below w.heap.size w w') := by
  go_enter Tryd.func31, Tryd.ntmps31
  go_wp2_with fail
  refine (open_ok l v _ hv).mono ?_
  rintro e w1 ⟨g, l', rfl, hg, h1, b1⟩
  go_wp2_with fail
  refine (text_ok l' g 0 _ h1 (by omega)).mono ?_
  rintro e w2 ⟨v, p, rfl, h2, hp2, hb2, s, hs, rfl⟩
  go_wp2_with fail
  go_ret
  exact ⟨s, hs, rfl, b1.trans (hb2.1.mono hg)⟩
theorem draw_list (l : List UInt8) (v : Value) (w : World) (hv : Sl false byS w 0 w.heap.size l v) :
    Calls Tryd.prog 32 #[v] w (fun e w' => ∃ u lst, e = .returned u ∧ (∀ m, Sl m (wordS m) w' w.heap.size w'.heap.size lst u) ∧ lst.length ≤ 20 ∧ (∀ a ∈ lst, I64 a.kind ∧ a.text.size ≤ 1001) ∧ Below w.heap.size w w') := by
  go_enter Tryd.func32, Tryd.ntmps32
  go_wp2_with fail
  refine (open_ok l v _ hv).mono ?_
  rintro e w1 ⟨g, l', rfl, hg, h1, b1⟩
  go_wp2_with fail
  refine (list_ok l' g 0 _ h1 (by omega)).mono ?_
  rintro e w2 ⟨v, p, lst, rfl, h2, hp2, hb2, hs, hl, hI⟩
  obtain ⟨A, c, hf, _, _⟩ := (hs false).form
  subst hf
  go_wp2_with fail
  go_ret
  exact ⟨_, lst, rfl, fun m => (hs m).more b1.size (Nat.le_refl _), hl, hI, b1.trans (hb2.1.mono hg)⟩
theorem draw_count (l : List UInt8) (v : Value) (w : World) (hv : Sl false byS w 0 w.heap.size l v) :
    Calls Tryd.prog 20 #[v] w (fun e w' => ∃ u lst x, e = .returned (.tuple #[u, .int .i64 x]) ∧ I64 x ∧ (∀ m, Sl m (wordS m) w' w.heap.size w'.heap.size lst u) ∧ lst.length ≤ 20 ∧ (∀ a ∈ lst, I64 a.kind ∧ a.text.size ≤ 1001) ∧ Below w.heap.size w w') := by
  go_enter Tryd.func20, Tryd.ntmps20
  go_wp2_with fail
  refine (open_ok l v _ hv).mono ?_
  rintro e w1 ⟨g, l', rfl, hg, h1, b1⟩
  go_wp2_with fail
  refine (list_ok l' g 0 _ h1 (by omega)).mono ?_
  rintro e w2 ⟨v, p, lst, rfl, h2, hp2, hb2, hs, hl, hI⟩
  obtain ⟨A, c, hf, _, _⟩ := (hs false).form
  subst hf
  have hg2 := h2.lt
  have hg1 := h1.lt
  have L2 := lit_int w2 [1, 2, 3, 4, 0, 5, -1] (i64_of (by decide)) (by decide)
  go_wp2_with fail
  refine (num_ok [1, 2, 3, 4, 0, 5, -1] (by decide) (by decide) I64 (i64_of (by decide)) _ _ _ l' g p _ (h2.below ((Below.refl _ _).alloc (Nat.le_refl _) _) hg2) (by omega) L2 hg2 (Nat.le_refl _)).mono ?_
  rintro e w3 ⟨v, p3, rfl, h3, hp3, hb3, x, hx, rfl⟩
  go_wp2_with fail
  go_ret2
  have b2 : Below w.heap.size w2 (w2.alloc (.cells ([1, 2, 3, 4, 0, 5, -1].map (Value.int .i64)).toArray 3)) := (Below.refl _ _).alloc (by have := hb2.1.size; have := b1.size; omega) _
  refine ⟨_, lst, x, rfl, hx, fun m => ?_, hl, hI, ((b1.trans (hb2.1.mono hg)).trans b2).trans (hb3.1.mono hg)⟩
  have s1 : Sl m (wordS m) (w2.alloc (.cells ([1, 2, 3, 4, 0, 5, -1].map (Value.int .i64)).toArray 3)) w1.heap.size w2.heap.size lst (.slice A lst.length c) := (hs m).below ((Below.refl _ _).alloc (Nat.le_refl _) _) (Nat.le_refl _)
  exact (hb3.sl s1 hg1 (by simp)).more b1.size (Nat.le_trans (by simp) hb3.1.size)
def tailsD : List ByteArray := [⟨#[]⟩, ⟨#[]⟩, ⟨#[]⟩, ⟨#[97]⟩, ⟨#[98, 99]⟩]
theorem draw_name (l : List UInt8) (v : Value) (w : World) (hv : Sl false byS w 0 w.heap.size l v) :
    Calls Tryd.prog 13 #[v] w (fun e w' => ∃ s, s.size ≤ 2002 ∧ e = .returned (.string s) ∧ Below w.heap.size w w') := by
  go_enter Tryd.func13, Tryd.ntmps13
  go_wp2_with fail
  refine (open_ok l v _ hv).mono ?_
  rintro e w1 ⟨g, l', rfl, hg, h1, b1⟩
  go_wp2_with fail
  refine (bad_ok l' g 0 _ h1 (by omega)).mono ?_
  rintro e w2 ⟨v, p, rfl, h2, hp2, hb2, s, hs, rfl⟩
  have hs' : s.size ≤ 1001 := hs
  have hg2 := h2.lt
  have L2 := lit_str w2 tailsD (small_ml (small_all (by decide +kernel))) (by decide)
  go_wp2_with fail
  refine (of_ok tailsD (by decide) (by decide) Small1 (small_all (by decide +kernel)) _ _ _ l' g p _ (h2.below ((Below.refl _ _).alloc (Nat.le_refl _) _) hg2) (by omega) L2 hg2 (Nat.le_refl _)).mono ?_
  rintro e w3 ⟨v, p3, rfl, h3, hp3, hb3, t, ht, rfl⟩
  have ht' : t.size ≤ 1001 := ht
  have b2 : Below w.heap.size w2 (w2.alloc (.cells (tailsD.map Value.string).toArray 9)) := (Below.refl _ _).alloc (by have := hb2.1.size; have := b1.size; omega) _
  go_wp2_with fail
  go_ret
  exact ⟨s ++ t, by rw [ByteArray.size_append]; omega, rfl, ((b1.trans (hb2.1.mono hg)).trans b2).trans (hb3.1.mono hg)⟩
/-- it answers a word -/
def WordP (w : World) (e : Ending) (w' : World) : Prop := ∃ k s, e = .returned (.agg #[.int .i64 k, .string s]) ∧ I64 k ∧ s.size ≤ 1001 ∧ Below w.heap.size w w'
set_option maxRecDepth 100000 in
set_option maxHeartbeats 4000000 in
theorem draw_word (l : List UInt8) (v : Value) (w : World) (hv : Sl false byS w 0 w.heap.size l v) : Calls Tryd.prog 23 #[v] w (WordP w) := by
  have hb0 : Below w.heap.size w (w.alloc (.cells #[.int .i64 0, .string ⟨#[]⟩] 29)) := (Below.refl _ _).alloc (Nat.le_refl _) _
  have R0 : Row (w.alloc (.cells #[.int .i64 0, .string ⟨#[]⟩] 29)) w.heap.size 29 #[.int .i64 0, .string ⟨#[]⟩] := Row.new w _ _
  have hv0 : Sl false byS (w.alloc (.cells #[.int .i64 0, .string ⟨#[]⟩] 29)) 0 (w.alloc (.cells #[.int .i64 0, .string ⟨#[]⟩] 29)).heap.size l v := (hv.below hb0 (Nat.le_refl _)).more (Nat.le_refl _) hb0.size
  go_enter Tryd.func23, Tryd.ntmps23
  go_wp2_with fail
  refine (open_ok l v _ hv0).mono ?_
  rintro e w1 ⟨g, l', rfl, hg, h1, b1⟩
  have hb1 := hb0.trans (b1.mono hb0.size)
  have R1 := R0.below b1 R0.lt
  have hwg : w.heap.size < g := Nat.lt_of_lt_of_le (by simp) hg
  clear R0
  go_wp2_with fail
  refine (pick_ok 2 (by omega) (by omega) l' g 0 _ h1 (by omega)).mono ?_
  rintro e w2 ⟨v, p2, rfl, h2, hp2, hb2, k, hk, rfl⟩
  have hB2 := hb1.trans (hb2.1.mono (Nat.le_of_lt hwg))
  have R2 := R1.below hb2.1 hwg
  have hg2 := h2.lt
  clear R1
  have fin : ∀ (wX : World) (kd : Int) (tx : ByteArray), Below w.heap.size w wX → Row wX w.heap.size 29 #[.int .i64 0, .string ⟨#[]⟩] → I64 kd → tx.size ≤ 1001 →
      (wX.cell? ⟨w.heap.size, 0, none⟩ = some (.int .i64 0) ∧ wX.cell? ⟨w.heap.size, 1, none⟩ = some (.string ⟨#[]⟩) ∧ wX.frozen? ⟨w.heap.size, 0, none⟩ = false ∧ wX.frozen? ⟨w.heap.size, 1, none⟩ = false) ∧ (∀ u0, (wX.setCell ⟨w.heap.size, 0, none⟩ u0).cell? ⟨w.heap.size, 0, none⟩ = some u0) ∧ (∀ u0 u1, ((wX.setCell ⟨w.heap.size, 0, none⟩ u0).setCell ⟨w.heap.size, 1, none⟩ u1).cell? ⟨w.heap.size, 1, none⟩ = some u1) ∧ (∀ u0, (wX.setCell ⟨w.heap.size, 0, none⟩ u0).cell? ⟨w.heap.size, 1, none⟩ = some (.string ⟨#[]⟩)) ∧ WordP w (.returned (.agg #[.int .i64 kd, .string tx])) ((wX.setCell ⟨w.heap.size, 0, none⟩ (.int .i64 kd)).setCell ⟨w.heap.size, 1, none⟩ (.string tx)) := by
    intro wX kd tx hX RX hk ht
    exact ⟨⟨RX.cell 0, RX.cell 1, RX.frozen 0, RX.frozen 1⟩, fun u0 => (RX.set_ 0 u0).cell 0, fun u0 u1 => ((RX.set_ 0 u0).set_ 1 u1).cell 1, fun u0 => (RX.set_ 0 u0).cell 1, kd, tx, rfl, hk, ht, (hX.setCell (p := ⟨w.heap.size, 0, none⟩) (Nat.le_refl _) _).setCell (p := ⟨w.heap.size, 1, none⟩) (Nat.le_refl _) _⟩
  replace fin := Lib.hid fin
  by_cases k0 : k = 0
  · subst k0
    go_wp2_with fail
    refine (some_ok l' g p2 _ h2 (by omega)).mono ?_
    rintro e w3 ⟨v, p3, rfl, h3, hp3, hb3, s, hs, rfl⟩
    have hs' : s.size ≤ 1001 := hs.2
    have hs1 : 0 < s.size := hs.1
    have hB3 := hB2.trans (hb3.1.mono (Nat.le_of_lt hwg))
    have R3 := R2.below hb3.1 hwg
    clear R2
    go_wp2_with fail
    refine (spec_l1Word s _ (Nat.le_trans hs' (by decide)) hs1).mono ?_
    obtain ⟨kd, hkd⟩ : ∃ kd, kindS s[0] s = kd := ⟨_, rfl⟩
    have hkI : I64 kd := by rw [← hkd]; exact kindS_I64 _ _
    rw [hkd]
    clear hkd
    rintro e w4 ⟨rfl, b4⟩
    have hB4 := hB3.trans (b4.mono hB3.size)
    have R4 := R3.below b4 R3.lt
    have rl := R4.lt
    obtain ⟨⟨c0, c1, f0, f1⟩, z0, z1, z2, F⟩ := fin.out w4 kd s hB4 R4 hkI hs'
    replace z0 := Lib.hid z0
    replace z1 := Lib.hid z1
    replace z2 := z2 (.int .i64 kd)
    replace F := Lib.hid F
    go_wp2_with fail
    refine bodyPost_ret (v := .agg #[.int .i64 kd, .string s]) (by simp [results, Tryd.results23, go_sem, z0.out, z1.out]) rfl F.out
  · have q0 : ((k : Int) == 0) = false := by simpa using k0
    go_wp2_with fail
    refine (pick_ok 6 (by omega) (by omega) l' g p2 _ h2 (by omega)).mono ?_
    rintro e w3 ⟨v, p3, rfl, h3, hp3, hb3, kd, hkd, rfl⟩
    have hB3 := hB2.trans (hb3.1.mono (Nat.le_of_lt hwg))
    have R3 := R2.below hb3.1 hwg
    clear R2
    go_wp2_with fail
    refine (bad_ok l' g p3 _ h3 (by omega)).mono ?_
    rintro e w4 ⟨v, p4, rfl, h4, hp4, hb4, s, hs, rfl⟩
    have hB4 := hB3.trans (hb4.1.mono (Nat.le_of_lt hwg))
    have R4 := R3.below hb4.1 hwg
    have rl := R4.lt
    obtain ⟨⟨c0, c1, f0, f1⟩, z0, z1, z2, F⟩ := fin.out w4 (kd : Int) s hB4 R4 ⟨by omega, by omega⟩ hs
    replace z0 := Lib.hid z0
    replace z1 := Lib.hid z1
    replace z2 := z2 (.int .i64 (kd : Int))
    replace F := Lib.hid F
    go_wp2_with fail
    refine bodyPost_ret (v := .agg #[.int .i64 (kd : Int), .string s]) (by simp [results, Tryd.results23, go_sem, z0.out, z1.out]) rfl F.out
end Go.Proofs.YtiaioiijdlmilaaDoor
