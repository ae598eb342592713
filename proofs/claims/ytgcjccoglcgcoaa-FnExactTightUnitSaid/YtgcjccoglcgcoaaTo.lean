/-
  The to.. functions: they answer the same datum in new memory. Conditions: the arguments read as data, of size at most 1048576.
-/
import Derived.Test.YtgcjccoglcgcoaaSz
namespace Go.Proofs.Ytgcjccoglcgcoaa
open Go.RowKit Go.ChangeShapes Go.WideShapes Go.Deep

/-- between lo and B the world w' is as w was -/
def Same (lo B : Nat) (w w' : World) : Prop := ∀ b : Nat, lo ≤ b → b < B → w'.heap[b]? = w.heap[b]?
theorem Same.refl (lo B : Nat) (w : World) : Same lo B w w := fun _ _ _ => rfl
theorem Same.setCell {lo B : Nat} {w w' : World} (h : Same lo B w w') {p : Addr} (hp : p.block < lo ∨ B ≤ p.block) (u : Value) : Same lo B w (w'.setCell p u) := fun b h1 h2 => (Below.heap_setCell w' p u b (by omega)).trans (h b h1 h2)
theorem Same.below {lo B B' : Nat} {w w' w'' : World} (h : Same lo B w w') (hb : Below B' w' w'') (hB : B ≤ B') : Same lo B w w'' := fun b h1 h2 => (hb.block b (by omega)).trans (h b h1 h2)
theorem Same.alloc {lo B : Nat} {w w' : World} (h : Same lo B w w') (hB : B ≤ w'.heap.size) (o : Obj) : Same lo B w (w'.alloc o) := fun b h1 h2 => (Below.heap_alloc w' o b (by omega)).trans (h b h1 h2)
/-- what a to.. function of a struct answers: the same datum in new memory that may be written -/
def ToP {α : Type} (S : Bool → Shp α) (a : α) (w : World) (e : Ending) (w' : World) : Prop :=
  ∃ cs : List Value, e = .returned (.agg cs.toArray) ∧ (∀ m, (S m).rep w' w.heap.size w'.heap.size a cs) ∧ Below w.heap.size w w'
/-- .. of a slice -/
def ToSP {α : Type} (S : Bool → Shp α) (l : List α) (w : World) (e : Ending) (w' : World) : Prop :=
  ∃ v : Value, e = .returned v ∧ (∀ m, Sl m (S m) w' w.heap.size w'.heap.size l v) ∧ Below w.heap.size w w'

theorem Try.info_int : (Try.prog.info? 3).map (fun i => (i.zero, i.size, i.bytes)) = some (some (.int .i64 0), 1, 8) := by kernel_rfl
theorem to_IntS (l : List Int) (v : Value) (w : World) (lo B : Nat) (hB : B ≤ w.heap.size) (hN : l.length ≤ 1048576) (hv : Sl false (intS false) w lo B l v) :
    Calls Try.prog 113 #[v] w (ToSP (fun m => (intS m)) l w) := by
  obtain ⟨A, cap, rfl, hlc, hcm⟩ := hv.form
  have hlen : l.length ≤ 1048576 := by omega
  obtain ⟨i0, hi, hz0, hz1, hz2⟩ := info_parts Try.info_int
  go_enter Try.func113, Try.ntmps113
  go_wp2_with (at_make; refine wpList_make_full _ rfl _ _ 63 rfl w.heap.size 3 i0 _ 1 Try.underlying63 hi hz0 hz1 _ _ _ _ l.length rfl rfl rfl rfl ?c1 ?c2 (Nat.le_refl _) ?c3)
  case c1 => rw [hz2]; omega
  case c2 => unfold maxLen; omega
  case c3 =>
    intro w1 hown hgrow
    obtain ⟨cur0, hr0, hs0, hb0, _, _, _⟩ := Row.of_own hown
    have hb1 : Below w.heap.size w w1 := (Below.refl _ _).grown hgrow (Nat.le_refl _) (fun k hk => by cases hk)
    obtain ⟨g, hg⟩ : ∃ g, g = w.heap.size := ⟨_, rfl⟩
    rw [← hg] at hr0 ⊢
    have hge : w.heap.size ≤ g := Nat.le_of_eq hg.symm
    have HG : Hid (g = w.heap.size) := hg
    clear hg hown hgrow hi hz0 hz1 hz2 hb0
    go_wp2_with fail
    go_loopw [4] (fun i wr => ∃ (k : Nat) (cur : Array Value), k ≤ l.length ∧ i = .int .i64 k ∧ Row wr g 3 cur ∧ cur.size = l.length ∧ (∀ m, Elems (intS m) wr (g + 1) wr.heap.size cur k l) ∧ Below w.heap.size w wr) (fun i _ => l.length - (intOf i).toNat)
    case atStart => exact ⟨0, cur0, by omega, rfl, hr0, by simpa using hs0, fun m => Elems.zero _ _ _ _ _ _, hb1⟩
    case round =>
      obtain ⟨k, cur, hk, rfl, hrow, hcs, hdone, hb⟩ := hrel
      have hgl := hrow.lt
      have hsz := hb.size
      by_cases hkl : k < l.length
      · obtain ⟨b, o, a, rfl, _, _, HL, ha, c0⟩ := int_get (hv.below hb hB) hkl
        have HC : Hid (cur.size = l.length) := hcs
        have hk2 : k < cur.size := by omega
        clear hcs
        obtain ⟨z0, hz0⟩ := hrow.cellAt (i := k) (by omega)
        have hf0 := hrow.frozen k
        go_wp2_with fail
        go_roundw
        case rel =>
          refine ⟨k + 1, _, by omega, by go_num, hrow.set_ _ _, by simpa using HC.out, fun m => ?_, ?_⟩
          · refine Elems.succ (k := k) (a := a) (cs := [.int .i64 a]) (fun i b hi hb => (hdone m i b hi hb)) (by rw [List.getElem?_eq_getElem hkl, HL.out]) (int_mk m _ _ _ ha) ?_ ?_
            · intro j hj
              have hj' : j < k := by simpa [intS] using hj
              exact set_ne (by omega) _
            · intro j u hu
              match j, hu with
              | 0, hu =>
                have hu' := Option.some.inj hu
                subst hu'
                simpa [intS] using set_same hk2 _
          · exact hb.setCell hge _
        case measure => simp [intOf]; omega
      · obtain rfl : k = l.length := by omega
        go_wp2_with fail
        go_ret
        exact ⟨_, rfl, fun m => Sl.of_row hrow hge hgl (Nat.le_refl _) (by unfold maxLen; omega) ((hdone m).keep (by omega) (Nat.le_refl _) (fun _ _ _ => rfl)), hb⟩

theorem to_Phi (to : Int) (args : List Int) (v1 : Value) (w : World) (lo B : Nat) (hB : B ≤ w.heap.size) (hN : args.length ≤ 1048576) (h0 : I64 to) (h1 : Sl false (intS false) w lo B args v1) :
    Calls Try.prog 119 #[.agg #[.int .i64 to, v1]] w (ToP (fun m => (phiS m)) (⟨to, args⟩ : PhiD) w) := by
  go_enter Try.func119, Try.ntmps119
  have hb0 : Below w.heap.size w (((w.alloc (.cells #[.int .i64 to, v1] 133)).alloc (.cells #[.int .i64 0, .slice none 0 0] 69)).alloc (.cells #[.int .i64 to, .slice none 0 0] 69)) := (((Below.refl _ _).alloc (Nat.le_refl _) _).alloc (by simp) _).alloc (by simp; omega) _
  have B0 : Row (((w.alloc (.cells #[.int .i64 to, v1] 133)).alloc (.cells #[.int .i64 0, .slice none 0 0] 69)).alloc (.cells #[.int .i64 to, .slice none 0 0] 69)) (w.heap.size) 133 #[.int .i64 to, v1] := ((Row.new w _ _).alloc _).alloc _
  have S0 : Row (((w.alloc (.cells #[.int .i64 to, v1] 133)).alloc (.cells #[.int .i64 0, .slice none 0 0] 69)).alloc (.cells #[.int .i64 to, .slice none 0 0] 69)) (w.heap.size + 1) 69 #[.int .i64 0, .slice none 0 0] := by simpa using (Row.new (w.alloc (.cells #[.int .i64 to, v1] 133)) 69 #[.int .i64 0, .slice none 0 0]).alloc (.cells #[.int .i64 to, .slice none 0 0] 69)
  have G0 : Row (((w.alloc (.cells #[.int .i64 to, v1] 133)).alloc (.cells #[.int .i64 0, .slice none 0 0] 69)).alloc (.cells #[.int .i64 to, .slice none 0 0] 69)) (w.heap.size + 1 + 1) 69 #[.int .i64 to, .slice none 0 0] := by simpa using Row.new ((w.alloc (.cells #[.int .i64 to, v1] 133)).alloc (.cells #[.int .i64 0, .slice none 0 0] 69)) 69 #[.int .i64 to, .slice none 0 0]
  have z0 : w.heap.size + 1 + 1 + 1 ≤ (((w.alloc (.cells #[.int .i64 to, v1] 133)).alloc (.cells #[.int .i64 0, .slice none 0 0] 69)).alloc (.cells #[.int .i64 to, .slice none 0 0] 69)).heap.size := by simp
  go_wp2_with fail
  refine (to_IntS args v1 _ lo B (Nat.le_trans hB hb0.size) (by omega) (h1.below hb0 hB)).mono ?_
  rintro e w1 ⟨x1, rfl, hx1, e1⟩
  obtain ⟨A1, p1, rfl, _, _⟩ := (hx1 false).form
  have hb1 : Below w.heap.size w w1 := hb0.trans (e1.mono hb0.size)
  have B1 := B0.below e1 B0.lt
  have S1 := S0.below e1 S0.lt
  have G1 := G0.below e1 G0.lt
  have z1 : w.heap.size + 1 + 1 + 1 ≤ w1.heap.size := Nat.le_trans z0 e1.size
  have hy1 : ∀ m, Sl m (intS m) w1 (w.heap.size + 1 + 1 + 1) w1.heap.size args (.slice A1 args.length p1) := fun m => (hx1 m).more z0 (Nat.le_refl _)
  have p1_0 : w1.cell? ⟨w.heap.size + 1 + 1, 0, none⟩ = some (.int .i64 to) := G1.cell 0
  have s1_0 : w1.cell? ⟨w.heap.size + 1, 0, none⟩ = some (.int .i64 0) := S1.cell 0
  have u1_0 : w1.frozen? ⟨w.heap.size + 1, 0, none⟩ = false := S1.frozen 0
  have p1_1 : w1.cell? ⟨w.heap.size + 1 + 1, 1, none⟩ = some (.slice none 0 0) := G1.cell 1
  have s1_1 : w1.cell? ⟨w.heap.size + 1, 1, none⟩ = some (.slice none 0 0) := S1.cell 1
  have q1_1 : w1.frozen? ⟨w.heap.size + 1 + 1, 1, none⟩ = false := G1.frozen 1
  have u1_1 : w1.frozen? ⟨w.heap.size + 1, 1, none⟩ = false := S1.frozen 1
  go_wp2_with fail
  refine bodyPost_ret (v := .agg #[.int .i64 to, .slice A1 args.length p1]) (by simp [results, Try.results119, go_sem, s1_0, s1_1]) rfl ⟨[.int .i64 to, .slice A1 args.length p1], rfl, fun m => ?_, ?_⟩
  · exact phi_mk m to args _ h0 ((hy1 m).keep (by omega) (by simp [World.setCell]) (((((Same.refl _ _ _).setCell (p := ⟨w.heap.size + 1 + 1, 1, none⟩) (.inl (by simp)) ((.slice A1 args.length p1))).setCell (p := ⟨w.heap.size + 1, 0, none⟩) (.inl (by simp)) (.int .i64 to)).setCell (p := ⟨w.heap.size + 1, 1, none⟩) (.inl (by simp)) (.slice A1 args.length p1))))
  · exact (((hb1.setCell (p := ⟨w.heap.size + 1 + 1, 1, none⟩) (by simp; omega) ((.slice A1 args.length p1))).setCell (p := ⟨w.heap.size + 1, 0, none⟩) (by simp) (.int .i64 to)).setCell (p := ⟨w.heap.size + 1, 1, none⟩) (by simp) (.slice A1 args.length p1))

theorem Try.info_Phi : (Try.prog.info? 69).map (fun i => (i.zero, i.size, i.bytes)) = some (some (.agg #[.int .i64 0, .slice none 0 0]), 2, 32) := by kernel_rfl
theorem to_PhiS (l : List PhiD) (v : Value) (w : World) (lo B : Nat) (hB : B ≤ w.heap.size) (hN : (l.length + sumBy phiN l) ≤ 1048576) (hv : Sl false (phiS false) w lo B l v) :
    Calls Try.prog 111 #[v] w (ToSP (fun m => (phiS m)) l w) := by
  obtain ⟨A, cap, rfl, hlc, hcm⟩ := hv.form
  have hlen : l.length ≤ 1048576 := by omega
  obtain ⟨i0, hi, hz0, hz1, hz2⟩ := info_parts Try.info_Phi
  go_enter Try.func111, Try.ntmps111
  go_wp2_with (at_make; refine wpList_make_full _ rfl _ _ 61 rfl w.heap.size 69 i0 _ 2 Try.underlying61 hi hz0 hz1 _ _ _ _ l.length rfl rfl rfl rfl ?c1 ?c2 (Nat.le_refl _) ?c3)
  case c1 => rw [hz2]; omega
  case c2 => unfold maxLen; omega
  case c3 =>
    intro w1 hown hgrow
    obtain ⟨cur0, hr0, hs0, hb0, _, _, _⟩ := Row.of_own hown
    have hb1 : Below w.heap.size w w1 := (Below.refl _ _).grown hgrow (Nat.le_refl _) (fun k hk => by cases hk)
    obtain ⟨g, hg⟩ : ∃ g, g = w.heap.size := ⟨_, rfl⟩
    rw [← hg] at hr0 ⊢
    have hge : w.heap.size ≤ g := Nat.le_of_eq hg.symm
    have HG : Hid (g = w.heap.size) := hg
    clear hg hown hgrow hi hz0 hz1 hz2 hb0
    go_wp2_with fail
    go_loopw [4] (fun i wr => ∃ (k : Nat) (cur : Array Value), k ≤ l.length ∧ i = .int .i64 k ∧ Row wr g 69 cur ∧ cur.size = l.length * 2 ∧ (∀ m, Elems (phiS m) wr (g + 1) wr.heap.size cur k l) ∧ Below w.heap.size w wr) (fun i _ => l.length - (intOf i).toNat)
    case atStart => exact ⟨0, cur0, by omega, rfl, hr0, by simpa using hs0, fun m => Elems.zero _ _ _ _ _ _, hb1⟩
    case round =>
      obtain ⟨k, cur, hk, rfl, hrow, hcs, hdone, hb⟩ := hrel
      have hgl := hrow.lt
      have hsz := hb.size
      by_cases hkl : k < l.length
      · obtain ⟨b, o, to, args, v1, rfl, _, _, HL, g0, g1, c0, c1⟩ := phi_get (hv.below hb hB) hkl
        have HC : Hid (cur.size = l.length * 2) := hcs
        have hk2 : k * 2 + 1 < cur.size := by omega
        clear hcs
        have hN1 : args.length ≤ 1048576 := by
          have h1 := sumBy_mem phiN (List.getElem_mem hkl)
          rw [HL.out] at h1
          simp only [phiN] at h1
          omega
        go_wp2_with fail
        refine (to_Phi to args v1 _ lo B (by omega) hN1 g0 g1).mono ?_
        rintro e w2 ⟨cs, rfl, hx, hb2⟩
        obtain ⟨x1, rfl, t0, t1⟩ := phi_open (hx false)
        obtain ⟨A1, p1, hxx1, _, _⟩ := t1.form
        change _ = Value.slice A1 args.length p1 at hxx1
        subst hxx1
        have hr2 := hrow.below hb2 hgl
        have hsz2 := hb2.size
        obtain ⟨z0, hz0⟩ := hr2.cellAt (i := k * 2) (by omega)
        have hf0 := hr2.frozen (k * 2)
        obtain ⟨z1, hz1⟩ := hr2.cellAt (i := k * 2 + 1) (by omega)
        have hf1 := hr2.frozen (k * 2 + 1)
        clear t0 t1
        go_wp2_with fail
        go_roundw
        case rel =>
          refine ⟨k + 1, _, by omega, by go_num, ((hr2.set_ (k * 2) (.int .i64 to)).set_ (k * 2 + 1) (.slice A1 args.length p1)), by simpa using HC.out, fun m => ?_, ?_⟩
          · have hs1 : Same (g + 1) w2.heap.size w2 (((w2).setCell ⟨g, k * 2, none⟩ (.int .i64 to)).setCell ⟨g, k * 2 + 1, none⟩ (.slice A1 args.length p1)) := (((Same.refl _ _ _).setCell (p := ⟨g, k * 2, none⟩) (.inl (by simp)) (.int .i64 to)).setCell (p := ⟨g, k * 2 + 1, none⟩) (.inl (by simp)) (.slice A1 args.length p1))
            have hold : Elems (phiS m) (((w2).setCell ⟨g, k * 2, none⟩ (.int .i64 to)).setCell ⟨g, k * 2 + 1, none⟩ (.slice A1 args.length p1)) (g + 1) w2.heap.size cur k l := (hdone m).keep (Nat.le_refl _) hsz2 (fun b h1 h2 => (hs1 b h1 (by omega)).trans (hb2.block b h2))
            have hnew : (phiS m).rep (((w2).setCell ⟨g, k * 2, none⟩ (.int .i64 to)).setCell ⟨g, k * 2 + 1, none⟩ (.slice A1 args.length p1)) (g + 1) w2.heap.size ((⟨to, args⟩ : PhiD)) [.int .i64 to, .slice A1 args.length p1] := (phiS m).keep (hx m) (by omega) (Nat.le_refl _) (fun b h1 h2 => hs1 b (by omega) h2)
            have hsz3 : w2.heap.size ≤ (((w2).setCell ⟨g, k * 2, none⟩ (.int .i64 to)).setCell ⟨g, k * 2 + 1, none⟩ (.slice A1 args.length p1)).heap.size := by simp [World.setCell]
            refine Elems.succ (k := k) (a := (⟨to, args⟩ : PhiD)) (cs := [.int .i64 to, .slice A1 args.length p1]) (hold.keep (Nat.le_refl _) hsz3 (fun _ _ _ => rfl)) (by rw [List.getElem?_eq_getElem hkl, HL.out]) ((phiS m).more hnew (Nat.le_refl _) hsz3) ?_ ?_
            · intro j hj
              have hj' : j < k * 2 := by simpa [phiS] using hj
              rw [set_ne (by omega), set_ne (by omega)]
            · intro j u hu
              match j, hu with
              | 0, hu =>
                have hu' := Option.some.inj hu
                subst hu'
                refine (show (_ : Array Value)[k * 2]? = _ from ?_)
                rw [set_ne (by omega)]
                exact set_same (by first | omega | (simp only [Array.size_setIfInBounds]; omega)) _
              | 1, hu =>
                have hu' := Option.some.inj hu
                subst hu'
                refine (show (_ : Array Value)[k * 2 + 1]? = _ from ?_)
                exact set_same (by first | omega | (simp only [Array.size_setIfInBounds]; omega)) _
          · exact (((hb.trans (hb2.mono hb.size)).setCell (p := ⟨g, k * 2, none⟩) hge (.int .i64 to)).setCell (p := ⟨g, k * 2 + 1, none⟩) hge (.slice A1 args.length p1))
        case measure => simp [intOf]; omega
      · obtain rfl : k = l.length := by omega
        go_wp2_with fail
        go_ret
        exact ⟨_, rfl, fun m => Sl.of_row hrow hge hgl (Nat.le_refl _) (by unfold maxLen; omega) ((hdone m).keep (by omega) (Nat.le_refl _) (fun _ _ _ => rfl)), hb⟩

theorem to_Ins (op : Int) (to : Int) (args : List Int) (v2 : Value) (n : Int) (w : World) (lo B : Nat) (hB : B ≤ w.heap.size) (hN : args.length ≤ 1048576) (h0 : I64 op) (h1 : I64 to) (h2 : Sl false (intS false) w lo B args v2) (h3 : I64 n) :
    Calls Try.prog 120 #[.agg #[.int .i64 op, .int .i64 to, v2, .int .i64 n]] w (ToP (fun m => (insS m)) (⟨op, to, args, n⟩ : InsD) w) := by
  go_enter Try.func120, Try.ntmps120
  have hb0 : Below w.heap.size w (((w.alloc (.cells #[.int .i64 op, .int .i64 to, v2, .int .i64 n] 135)).alloc (.cells #[.int .i64 0, .int .i64 0, .slice none 0 0, .int .i64 0] 72)).alloc (.cells #[.int .i64 op, .int .i64 to, .slice none 0 0, .int .i64 0] 72)) := (((Below.refl _ _).alloc (Nat.le_refl _) _).alloc (by simp) _).alloc (by simp; omega) _
  have B0 : Row (((w.alloc (.cells #[.int .i64 op, .int .i64 to, v2, .int .i64 n] 135)).alloc (.cells #[.int .i64 0, .int .i64 0, .slice none 0 0, .int .i64 0] 72)).alloc (.cells #[.int .i64 op, .int .i64 to, .slice none 0 0, .int .i64 0] 72)) (w.heap.size) 135 #[.int .i64 op, .int .i64 to, v2, .int .i64 n] := ((Row.new w _ _).alloc _).alloc _
  have S0 : Row (((w.alloc (.cells #[.int .i64 op, .int .i64 to, v2, .int .i64 n] 135)).alloc (.cells #[.int .i64 0, .int .i64 0, .slice none 0 0, .int .i64 0] 72)).alloc (.cells #[.int .i64 op, .int .i64 to, .slice none 0 0, .int .i64 0] 72)) (w.heap.size + 1) 72 #[.int .i64 0, .int .i64 0, .slice none 0 0, .int .i64 0] := by simpa using (Row.new (w.alloc (.cells #[.int .i64 op, .int .i64 to, v2, .int .i64 n] 135)) 72 #[.int .i64 0, .int .i64 0, .slice none 0 0, .int .i64 0]).alloc (.cells #[.int .i64 op, .int .i64 to, .slice none 0 0, .int .i64 0] 72)
  have G0 : Row (((w.alloc (.cells #[.int .i64 op, .int .i64 to, v2, .int .i64 n] 135)).alloc (.cells #[.int .i64 0, .int .i64 0, .slice none 0 0, .int .i64 0] 72)).alloc (.cells #[.int .i64 op, .int .i64 to, .slice none 0 0, .int .i64 0] 72)) (w.heap.size + 1 + 1) 72 #[.int .i64 op, .int .i64 to, .slice none 0 0, .int .i64 0] := by simpa using Row.new ((w.alloc (.cells #[.int .i64 op, .int .i64 to, v2, .int .i64 n] 135)).alloc (.cells #[.int .i64 0, .int .i64 0, .slice none 0 0, .int .i64 0] 72)) 72 #[.int .i64 op, .int .i64 to, .slice none 0 0, .int .i64 0]
  have z0 : w.heap.size + 1 + 1 + 1 ≤ (((w.alloc (.cells #[.int .i64 op, .int .i64 to, v2, .int .i64 n] 135)).alloc (.cells #[.int .i64 0, .int .i64 0, .slice none 0 0, .int .i64 0] 72)).alloc (.cells #[.int .i64 op, .int .i64 to, .slice none 0 0, .int .i64 0] 72)).heap.size := by simp
  go_wp2_with fail
  refine (to_IntS args v2 _ lo B (Nat.le_trans hB hb0.size) (by omega) (h2.below hb0 hB)).mono ?_
  rintro e w1 ⟨x2, rfl, hx2, e1⟩
  obtain ⟨A2, p2, rfl, _, _⟩ := (hx2 false).form
  have hb1 : Below w.heap.size w w1 := hb0.trans (e1.mono hb0.size)
  have B1 := B0.below e1 B0.lt
  have S1 := S0.below e1 S0.lt
  have G1 := G0.below e1 G0.lt
  have z1 : w.heap.size + 1 + 1 + 1 ≤ w1.heap.size := Nat.le_trans z0 e1.size
  have hy2 : ∀ m, Sl m (intS m) w1 (w.heap.size + 1 + 1 + 1) w1.heap.size args (.slice A2 args.length p2) := fun m => (hx2 m).more z0 (Nat.le_refl _)
  have y1_3 : w1.cell? ⟨w.heap.size, 3, none⟩ = some (.int .i64 n) := B1.cell 3
  have p1_0 : w1.cell? ⟨w.heap.size + 1 + 1, 0, none⟩ = some (.int .i64 op) := G1.cell 0
  have s1_0 : w1.cell? ⟨w.heap.size + 1, 0, none⟩ = some (.int .i64 0) := S1.cell 0
  have u1_0 : w1.frozen? ⟨w.heap.size + 1, 0, none⟩ = false := S1.frozen 0
  have p1_1 : w1.cell? ⟨w.heap.size + 1 + 1, 1, none⟩ = some (.int .i64 to) := G1.cell 1
  have s1_1 : w1.cell? ⟨w.heap.size + 1, 1, none⟩ = some (.int .i64 0) := S1.cell 1
  have u1_1 : w1.frozen? ⟨w.heap.size + 1, 1, none⟩ = false := S1.frozen 1
  have p1_2 : w1.cell? ⟨w.heap.size + 1 + 1, 2, none⟩ = some (.slice none 0 0) := G1.cell 2
  have s1_2 : w1.cell? ⟨w.heap.size + 1, 2, none⟩ = some (.slice none 0 0) := S1.cell 2
  have q1_2 : w1.frozen? ⟨w.heap.size + 1 + 1, 2, none⟩ = false := G1.frozen 2
  have u1_2 : w1.frozen? ⟨w.heap.size + 1, 2, none⟩ = false := S1.frozen 2
  have p1_3 : w1.cell? ⟨w.heap.size + 1 + 1, 3, none⟩ = some (.int .i64 0) := G1.cell 3
  have s1_3 : w1.cell? ⟨w.heap.size + 1, 3, none⟩ = some (.int .i64 0) := S1.cell 3
  have q1_3 : w1.frozen? ⟨w.heap.size + 1 + 1, 3, none⟩ = false := G1.frozen 3
  have u1_3 : w1.frozen? ⟨w.heap.size + 1, 3, none⟩ = false := S1.frozen 3
  go_wp2_with fail
  refine bodyPost_ret (v := .agg #[.int .i64 op, .int .i64 to, .slice A2 args.length p2, .int .i64 n]) (by simp [results, Try.results120, go_sem, s1_0, s1_1, s1_2, s1_3]) rfl ⟨[.int .i64 op, .int .i64 to, .slice A2 args.length p2, .int .i64 n], rfl, fun m => ?_, ?_⟩
  · exact ins_mk m op to args _ n h0 h1 ((hy2 m).keep (by omega) (by simp [World.setCell]) ((((((((Same.refl _ _ _).setCell (p := ⟨w.heap.size + 1 + 1, 2, none⟩) (.inl (by simp)) ((.slice A2 args.length p2))).setCell (p := ⟨w.heap.size + 1 + 1, 3, none⟩) (.inl (by simp)) (.int .i64 n)).setCell (p := ⟨w.heap.size + 1, 0, none⟩) (.inl (by simp)) (.int .i64 op)).setCell (p := ⟨w.heap.size + 1, 1, none⟩) (.inl (by simp)) (.int .i64 to)).setCell (p := ⟨w.heap.size + 1, 2, none⟩) (.inl (by simp)) (.slice A2 args.length p2)).setCell (p := ⟨w.heap.size + 1, 3, none⟩) (.inl (by simp)) (.int .i64 n)))) h3
  · exact ((((((hb1.setCell (p := ⟨w.heap.size + 1 + 1, 2, none⟩) (by simp; omega) ((.slice A2 args.length p2))).setCell (p := ⟨w.heap.size + 1 + 1, 3, none⟩) (by simp; omega) (.int .i64 n)).setCell (p := ⟨w.heap.size + 1, 0, none⟩) (by simp) (.int .i64 op)).setCell (p := ⟨w.heap.size + 1, 1, none⟩) (by simp) (.int .i64 to)).setCell (p := ⟨w.heap.size + 1, 2, none⟩) (by simp) (.slice A2 args.length p2)).setCell (p := ⟨w.heap.size + 1, 3, none⟩) (by simp) (.int .i64 n))

theorem Try.info_Ins : (Try.prog.info? 72).map (fun i => (i.zero, i.size, i.bytes)) = some (some (.agg #[.int .i64 0, .int .i64 0, .slice none 0 0, .int .i64 0]), 4, 48) := by kernel_rfl
theorem to_InsS (l : List InsD) (v : Value) (w : World) (lo B : Nat) (hB : B ≤ w.heap.size) (hN : (l.length + sumBy insN l) ≤ 1048576) (hv : Sl false (insS false) w lo B l v) :
    Calls Try.prog 112 #[v] w (ToSP (fun m => (insS m)) l w) := by
  obtain ⟨A, cap, rfl, hlc, hcm⟩ := hv.form
  have hlen : l.length ≤ 1048576 := by omega
  obtain ⟨i0, hi, hz0, hz1, hz2⟩ := info_parts Try.info_Ins
  go_enter Try.func112, Try.ntmps112
  go_wp2_with (at_make; refine wpList_make_full _ rfl _ _ 62 rfl w.heap.size 72 i0 _ 4 Try.underlying62 hi hz0 hz1 _ _ _ _ l.length rfl rfl rfl rfl ?c1 ?c2 (Nat.le_refl _) ?c3)
  case c1 => rw [hz2]; omega
  case c2 => unfold maxLen; omega
  case c3 =>
    intro w1 hown hgrow
    obtain ⟨cur0, hr0, hs0, hb0, _, _, _⟩ := Row.of_own hown
    have hb1 : Below w.heap.size w w1 := (Below.refl _ _).grown hgrow (Nat.le_refl _) (fun k hk => by cases hk)
    obtain ⟨g, hg⟩ : ∃ g, g = w.heap.size := ⟨_, rfl⟩
    rw [← hg] at hr0 ⊢
    have hge : w.heap.size ≤ g := Nat.le_of_eq hg.symm
    have HG : Hid (g = w.heap.size) := hg
    clear hg hown hgrow hi hz0 hz1 hz2 hb0
    go_wp2_with fail
    go_loopw [4] (fun i wr => ∃ (k : Nat) (cur : Array Value), k ≤ l.length ∧ i = .int .i64 k ∧ Row wr g 72 cur ∧ cur.size = l.length * 4 ∧ (∀ m, Elems (insS m) wr (g + 1) wr.heap.size cur k l) ∧ Below w.heap.size w wr) (fun i _ => l.length - (intOf i).toNat)
    case atStart => exact ⟨0, cur0, by omega, rfl, hr0, by simpa using hs0, fun m => Elems.zero _ _ _ _ _ _, hb1⟩
    case round =>
      obtain ⟨k, cur, hk, rfl, hrow, hcs, hdone, hb⟩ := hrel
      have hgl := hrow.lt
      have hsz := hb.size
      by_cases hkl : k < l.length
      · obtain ⟨b, o, op, to, args, v2, n, rfl, _, _, HL, g0, g1, g2, g3, c0, c1, c2, c3⟩ := ins_get (hv.below hb hB) hkl
        have HC : Hid (cur.size = l.length * 4) := hcs
        have hk2 : k * 4 + 3 < cur.size := by omega
        clear hcs
        have hN1 : args.length ≤ 1048576 := by
          have h1 := sumBy_mem insN (List.getElem_mem hkl)
          rw [HL.out] at h1
          simp only [insN] at h1
          omega
        go_wp2_with fail
        refine (to_Ins op to args v2 n _ lo B (by omega) hN1 g0 g1 g2 g3).mono ?_
        rintro e w2 ⟨cs, rfl, hx, hb2⟩
        obtain ⟨x2, rfl, t0, t1, t2, t3⟩ := ins_open (hx false)
        obtain ⟨A2, p2, hxx2, _, _⟩ := t2.form
        change _ = Value.slice A2 args.length p2 at hxx2
        subst hxx2
        have hr2 := hrow.below hb2 hgl
        have hsz2 := hb2.size
        obtain ⟨z0, hz0⟩ := hr2.cellAt (i := k * 4) (by omega)
        have hf0 := hr2.frozen (k * 4)
        obtain ⟨z1, hz1⟩ := hr2.cellAt (i := k * 4 + 1) (by omega)
        have hf1 := hr2.frozen (k * 4 + 1)
        obtain ⟨z2, hz2⟩ := hr2.cellAt (i := k * 4 + 2) (by omega)
        have hf2 := hr2.frozen (k * 4 + 2)
        obtain ⟨z3, hz3⟩ := hr2.cellAt (i := k * 4 + 3) (by omega)
        have hf3 := hr2.frozen (k * 4 + 3)
        clear t0 t1 t2 t3
        go_wp2_with fail
        go_roundw
        case rel =>
          refine ⟨k + 1, _, by omega, by go_num, ((((hr2.set_ (k * 4) (.int .i64 op)).set_ (k * 4 + 1) (.int .i64 to)).set_ (k * 4 + 2) (.slice A2 args.length p2)).set_ (k * 4 + 3) (.int .i64 n)), by simpa using HC.out, fun m => ?_, ?_⟩
          · have hs1 : Same (g + 1) w2.heap.size w2 (((((w2).setCell ⟨g, k * 4, none⟩ (.int .i64 op)).setCell ⟨g, k * 4 + 1, none⟩ (.int .i64 to)).setCell ⟨g, k * 4 + 2, none⟩ (.slice A2 args.length p2)).setCell ⟨g, k * 4 + 3, none⟩ (.int .i64 n)) := (((((Same.refl _ _ _).setCell (p := ⟨g, k * 4, none⟩) (.inl (by simp)) (.int .i64 op)).setCell (p := ⟨g, k * 4 + 1, none⟩) (.inl (by simp)) (.int .i64 to)).setCell (p := ⟨g, k * 4 + 2, none⟩) (.inl (by simp)) (.slice A2 args.length p2)).setCell (p := ⟨g, k * 4 + 3, none⟩) (.inl (by simp)) (.int .i64 n))
            have hold : Elems (insS m) (((((w2).setCell ⟨g, k * 4, none⟩ (.int .i64 op)).setCell ⟨g, k * 4 + 1, none⟩ (.int .i64 to)).setCell ⟨g, k * 4 + 2, none⟩ (.slice A2 args.length p2)).setCell ⟨g, k * 4 + 3, none⟩ (.int .i64 n)) (g + 1) w2.heap.size cur k l := (hdone m).keep (Nat.le_refl _) hsz2 (fun b h1 h2 => (hs1 b h1 (by omega)).trans (hb2.block b h2))
            have hnew : (insS m).rep (((((w2).setCell ⟨g, k * 4, none⟩ (.int .i64 op)).setCell ⟨g, k * 4 + 1, none⟩ (.int .i64 to)).setCell ⟨g, k * 4 + 2, none⟩ (.slice A2 args.length p2)).setCell ⟨g, k * 4 + 3, none⟩ (.int .i64 n)) (g + 1) w2.heap.size ((⟨op, to, args, n⟩ : InsD)) [.int .i64 op, .int .i64 to, .slice A2 args.length p2, .int .i64 n] := (insS m).keep (hx m) (by omega) (Nat.le_refl _) (fun b h1 h2 => hs1 b (by omega) h2)
            have hsz3 : w2.heap.size ≤ (((((w2).setCell ⟨g, k * 4, none⟩ (.int .i64 op)).setCell ⟨g, k * 4 + 1, none⟩ (.int .i64 to)).setCell ⟨g, k * 4 + 2, none⟩ (.slice A2 args.length p2)).setCell ⟨g, k * 4 + 3, none⟩ (.int .i64 n)).heap.size := by simp [World.setCell]
            refine Elems.succ (k := k) (a := (⟨op, to, args, n⟩ : InsD)) (cs := [.int .i64 op, .int .i64 to, .slice A2 args.length p2, .int .i64 n]) (hold.keep (Nat.le_refl _) hsz3 (fun _ _ _ => rfl)) (by rw [List.getElem?_eq_getElem hkl, HL.out]) ((insS m).more hnew (Nat.le_refl _) hsz3) ?_ ?_
            · intro j hj
              have hj' : j < k * 4 := by simpa [insS] using hj
              rw [set_ne (by omega), set_ne (by omega), set_ne (by omega), set_ne (by omega)]
            · intro j u hu
              match j, hu with
              | 0, hu =>
                have hu' := Option.some.inj hu
                subst hu'
                refine (show (_ : Array Value)[k * 4]? = _ from ?_)
                rw [set_ne (by omega), set_ne (by omega), set_ne (by omega)]
                exact set_same (by first | omega | (simp only [Array.size_setIfInBounds]; omega)) _
              | 1, hu =>
                have hu' := Option.some.inj hu
                subst hu'
                refine (show (_ : Array Value)[k * 4 + 1]? = _ from ?_)
                rw [set_ne (by omega), set_ne (by omega)]
                exact set_same (by first | omega | (simp only [Array.size_setIfInBounds]; omega)) _
              | 2, hu =>
                have hu' := Option.some.inj hu
                subst hu'
                refine (show (_ : Array Value)[k * 4 + 2]? = _ from ?_)
                rw [set_ne (by omega)]
                exact set_same (by first | omega | (simp only [Array.size_setIfInBounds]; omega)) _
              | 3, hu =>
                have hu' := Option.some.inj hu
                subst hu'
                refine (show (_ : Array Value)[k * 4 + 3]? = _ from ?_)
                exact set_same (by first | omega | (simp only [Array.size_setIfInBounds]; omega)) _
          · exact (((((hb.trans (hb2.mono hb.size)).setCell (p := ⟨g, k * 4, none⟩) hge (.int .i64 op)).setCell (p := ⟨g, k * 4 + 1, none⟩) hge (.int .i64 to)).setCell (p := ⟨g, k * 4 + 2, none⟩) hge (.slice A2 args.length p2)).setCell (p := ⟨g, k * 4 + 3, none⟩) hge (.int .i64 n))
        case measure => simp [intOf]; omega
      · obtain rfl : k = l.length := by omega
        go_wp2_with fail
        go_ret
        exact ⟨_, rfl, fun m => Sl.of_row hrow hge hgl (Nat.le_refl _) (by unfold maxLen; omega) ((hdone m).keep (by omega) (Nat.le_refl _) (fun _ _ _ => rfl)), hb⟩

theorem to_Block (phis : List PhiD) (v0 : Value) (ins : List InsD) (v1 : Value) (jump : Int) (on : Int) (next : List Int) (v4 : Value) (w : World) (lo B : Nat) (hB : B ≤ w.heap.size) (hN : (phis.length + sumBy phiN phis) + (ins.length + sumBy insN ins) + next.length ≤ 1048576) (h0 : Sl false (phiS false) w lo B phis v0) (h1 : Sl false (insS false) w lo B ins v1) (h2 : I64 jump) (h3 : I64 on) (h4 : Sl false (intS false) w lo B next v4) :
    Calls Try.prog 98 #[.agg #[v0, v1, .int .i64 jump, .int .i64 on, v4]] w (ToP (fun m => (blkS m)) (⟨phis, ins, jump, on, next⟩ : BlkD) w) := by
  go_enter Try.func98, Try.ntmps98
  have hb0 : Below w.heap.size w (((w.alloc (.cells #[v0, v1, .int .i64 jump, .int .i64 on, v4] 117)).alloc (.cells #[.slice none 0 0, .slice none 0 0, .int .i64 0, .int .i64 0, .slice none 0 0] 65)).alloc (.cells #[.slice none 0 0, .slice none 0 0, .int .i64 0, .int .i64 0, .slice none 0 0] 65)) := (((Below.refl _ _).alloc (Nat.le_refl _) _).alloc (by simp) _).alloc (by simp; omega) _
  have B0 : Row (((w.alloc (.cells #[v0, v1, .int .i64 jump, .int .i64 on, v4] 117)).alloc (.cells #[.slice none 0 0, .slice none 0 0, .int .i64 0, .int .i64 0, .slice none 0 0] 65)).alloc (.cells #[.slice none 0 0, .slice none 0 0, .int .i64 0, .int .i64 0, .slice none 0 0] 65)) (w.heap.size) 117 #[v0, v1, .int .i64 jump, .int .i64 on, v4] := ((Row.new w _ _).alloc _).alloc _
  have S0 : Row (((w.alloc (.cells #[v0, v1, .int .i64 jump, .int .i64 on, v4] 117)).alloc (.cells #[.slice none 0 0, .slice none 0 0, .int .i64 0, .int .i64 0, .slice none 0 0] 65)).alloc (.cells #[.slice none 0 0, .slice none 0 0, .int .i64 0, .int .i64 0, .slice none 0 0] 65)) (w.heap.size + 1) 65 #[.slice none 0 0, .slice none 0 0, .int .i64 0, .int .i64 0, .slice none 0 0] := by simpa using (Row.new (w.alloc (.cells #[v0, v1, .int .i64 jump, .int .i64 on, v4] 117)) 65 #[.slice none 0 0, .slice none 0 0, .int .i64 0, .int .i64 0, .slice none 0 0]).alloc (.cells #[.slice none 0 0, .slice none 0 0, .int .i64 0, .int .i64 0, .slice none 0 0] 65)
  have G0 : Row (((w.alloc (.cells #[v0, v1, .int .i64 jump, .int .i64 on, v4] 117)).alloc (.cells #[.slice none 0 0, .slice none 0 0, .int .i64 0, .int .i64 0, .slice none 0 0] 65)).alloc (.cells #[.slice none 0 0, .slice none 0 0, .int .i64 0, .int .i64 0, .slice none 0 0] 65)) (w.heap.size + 1 + 1) 65 #[.slice none 0 0, .slice none 0 0, .int .i64 0, .int .i64 0, .slice none 0 0] := by simpa using Row.new ((w.alloc (.cells #[v0, v1, .int .i64 jump, .int .i64 on, v4] 117)).alloc (.cells #[.slice none 0 0, .slice none 0 0, .int .i64 0, .int .i64 0, .slice none 0 0] 65)) 65 #[.slice none 0 0, .slice none 0 0, .int .i64 0, .int .i64 0, .slice none 0 0]
  have z0 : w.heap.size + 1 + 1 + 1 ≤ (((w.alloc (.cells #[v0, v1, .int .i64 jump, .int .i64 on, v4] 117)).alloc (.cells #[.slice none 0 0, .slice none 0 0, .int .i64 0, .int .i64 0, .slice none 0 0] 65)).alloc (.cells #[.slice none 0 0, .slice none 0 0, .int .i64 0, .int .i64 0, .slice none 0 0] 65)).heap.size := by simp
  go_wp2_with fail
  refine (to_PhiS phis v0 _ lo B (Nat.le_trans hB hb0.size) (by omega) (h0.below hb0 hB)).mono ?_
  rintro e w1 ⟨x0, rfl, hx0, e1⟩
  obtain ⟨A0, p0, rfl, _, _⟩ := (hx0 false).form
  have hb1 : Below w.heap.size w w1 := hb0.trans (e1.mono hb0.size)
  have B1 := B0.below e1 B0.lt
  have S1 := S0.below e1 S0.lt
  have G1 := G0.below e1 G0.lt
  have z1 : w.heap.size + 1 + 1 + 1 ≤ w1.heap.size := Nat.le_trans z0 e1.size
  have hy0 : ∀ m, Sl m (phiS m) w1 (w.heap.size + 1 + 1 + 1) w1.heap.size phis (.slice A0 phis.length p0) := fun m => (hx0 m).more z0 (Nat.le_refl _)
  have y1_1 : w1.cell? ⟨w.heap.size, 1, none⟩ = some (v1) := B1.cell 1
  have y1_2 : w1.cell? ⟨w.heap.size, 2, none⟩ = some (.int .i64 jump) := B1.cell 2
  have y1_3 : w1.cell? ⟨w.heap.size, 3, none⟩ = some (.int .i64 on) := B1.cell 3
  have y1_4 : w1.cell? ⟨w.heap.size, 4, none⟩ = some (v4) := B1.cell 4
  have p1_0 : w1.cell? ⟨w.heap.size + 1 + 1, 0, none⟩ = some (.slice none 0 0) := G1.cell 0
  have s1_0 : w1.cell? ⟨w.heap.size + 1, 0, none⟩ = some (.slice none 0 0) := S1.cell 0
  have q1_0 : w1.frozen? ⟨w.heap.size + 1 + 1, 0, none⟩ = false := G1.frozen 0
  have u1_0 : w1.frozen? ⟨w.heap.size + 1, 0, none⟩ = false := S1.frozen 0
  have p1_1 : w1.cell? ⟨w.heap.size + 1 + 1, 1, none⟩ = some (.slice none 0 0) := G1.cell 1
  have s1_1 : w1.cell? ⟨w.heap.size + 1, 1, none⟩ = some (.slice none 0 0) := S1.cell 1
  have q1_1 : w1.frozen? ⟨w.heap.size + 1 + 1, 1, none⟩ = false := G1.frozen 1
  have u1_1 : w1.frozen? ⟨w.heap.size + 1, 1, none⟩ = false := S1.frozen 1
  have p1_2 : w1.cell? ⟨w.heap.size + 1 + 1, 2, none⟩ = some (.int .i64 0) := G1.cell 2
  have s1_2 : w1.cell? ⟨w.heap.size + 1, 2, none⟩ = some (.int .i64 0) := S1.cell 2
  have q1_2 : w1.frozen? ⟨w.heap.size + 1 + 1, 2, none⟩ = false := G1.frozen 2
  have u1_2 : w1.frozen? ⟨w.heap.size + 1, 2, none⟩ = false := S1.frozen 2
  have p1_3 : w1.cell? ⟨w.heap.size + 1 + 1, 3, none⟩ = some (.int .i64 0) := G1.cell 3
  have s1_3 : w1.cell? ⟨w.heap.size + 1, 3, none⟩ = some (.int .i64 0) := S1.cell 3
  have q1_3 : w1.frozen? ⟨w.heap.size + 1 + 1, 3, none⟩ = false := G1.frozen 3
  have u1_3 : w1.frozen? ⟨w.heap.size + 1, 3, none⟩ = false := S1.frozen 3
  have p1_4 : w1.cell? ⟨w.heap.size + 1 + 1, 4, none⟩ = some (.slice none 0 0) := G1.cell 4
  have s1_4 : w1.cell? ⟨w.heap.size + 1, 4, none⟩ = some (.slice none 0 0) := S1.cell 4
  have q1_4 : w1.frozen? ⟨w.heap.size + 1 + 1, 4, none⟩ = false := G1.frozen 4
  have u1_4 : w1.frozen? ⟨w.heap.size + 1, 4, none⟩ = false := S1.frozen 4
  have hc2 : Below w.heap.size w ((w1).setCell ⟨w.heap.size + 1 + 1, 0, none⟩ ((.slice A0 phis.length p0))) := (hb1.setCell (p := ⟨w.heap.size + 1 + 1, 0, none⟩) (by simp; omega) ((.slice A0 phis.length p0)))
  have B2' : Row ((w1).setCell ⟨w.heap.size + 1 + 1, 0, none⟩ ((.slice A0 phis.length p0))) (w.heap.size) 117 #[v0, v1, .int .i64 jump, .int .i64 on, v4] := (B1.far (p := ⟨w.heap.size + 1 + 1, 0, none⟩) (by simp; omega) ((.slice A0 phis.length p0)))
  have S2' : Row ((w1).setCell ⟨w.heap.size + 1 + 1, 0, none⟩ ((.slice A0 phis.length p0))) (w.heap.size + 1) 65 #[.slice none 0 0, .slice none 0 0, .int .i64 0, .int .i64 0, .slice none 0 0] := (S1.far (p := ⟨w.heap.size + 1 + 1, 0, none⟩) (by simp) ((.slice A0 phis.length p0)))
  have G2' : Row ((w1).setCell ⟨w.heap.size + 1 + 1, 0, none⟩ ((.slice A0 phis.length p0))) (w.heap.size + 1 + 1) 65 #[(.slice A0 phis.length p0), .slice none 0 0, .int .i64 0, .int .i64 0, .slice none 0 0] := (G1.set_ 0 ((.slice A0 phis.length p0)))
  have m0' : Same (w.heap.size + 1 + 1 + 1) w1.heap.size w1 ((w1).setCell ⟨w.heap.size + 1 + 1, 0, none⟩ ((.slice A0 phis.length p0))) := ((Same.refl _ _ _).setCell (p := ⟨w.heap.size + 1 + 1, 0, none⟩) (.inl (by simp)) ((.slice A0 phis.length p0)))
  have z2' : w.heap.size + 1 + 1 + 1 ≤ ((w1).setCell ⟨w.heap.size + 1 + 1, 0, none⟩ ((.slice A0 phis.length p0))).heap.size := by simp [World.setCell]; omega
  have zz2' : w1.heap.size ≤ ((w1).setCell ⟨w.heap.size + 1 + 1, 0, none⟩ ((.slice A0 phis.length p0))).heap.size := by simp [World.setCell]
  go_wp2_with fail
  refine (to_InsS ins v1 _ lo B (Nat.le_trans hB hc2.size) (by omega) (h1.below hc2 hB)).mono ?_
  rintro e w2 ⟨x1, rfl, hx1, e2⟩
  obtain ⟨A1, p1, rfl, _, _⟩ := (hx1 false).form
  have hb2 : Below w.heap.size w w2 := hc2.trans (e2.mono hc2.size)
  have B2 := B2'.below e2 B2'.lt
  have S2 := S2'.below e2 S2'.lt
  have G2 := G2'.below e2 G2'.lt
  have z2 : w.heap.size + 1 + 1 + 1 ≤ w2.heap.size := Nat.le_trans z2' e2.size
  have ws2 : w1.heap.size ≤ w2.heap.size := Nat.le_trans zz2' e2.size
  have hy1 : ∀ m, Sl m (insS m) w2 (w.heap.size + 1 + 1 + 1) w2.heap.size ins (.slice A1 ins.length p1) := fun m => (hx1 m).more z2' (Nat.le_refl _)
  have m0 : Same (w.heap.size + 1 + 1 + 1) w1.heap.size w1 w2 := m0'.below e2 (by omega)
  have y2_2 : w2.cell? ⟨w.heap.size, 2, none⟩ = some (.int .i64 jump) := B2.cell 2
  have y2_3 : w2.cell? ⟨w.heap.size, 3, none⟩ = some (.int .i64 on) := B2.cell 3
  have y2_4 : w2.cell? ⟨w.heap.size, 4, none⟩ = some (v4) := B2.cell 4
  have p2_0 : w2.cell? ⟨w.heap.size + 1 + 1, 0, none⟩ = some ((.slice A0 phis.length p0)) := G2.cell 0
  have s2_0 : w2.cell? ⟨w.heap.size + 1, 0, none⟩ = some (.slice none 0 0) := S2.cell 0
  have u2_0 : w2.frozen? ⟨w.heap.size + 1, 0, none⟩ = false := S2.frozen 0
  have p2_1 : w2.cell? ⟨w.heap.size + 1 + 1, 1, none⟩ = some (.slice none 0 0) := G2.cell 1
  have s2_1 : w2.cell? ⟨w.heap.size + 1, 1, none⟩ = some (.slice none 0 0) := S2.cell 1
  have q2_1 : w2.frozen? ⟨w.heap.size + 1 + 1, 1, none⟩ = false := G2.frozen 1
  have u2_1 : w2.frozen? ⟨w.heap.size + 1, 1, none⟩ = false := S2.frozen 1
  have p2_2 : w2.cell? ⟨w.heap.size + 1 + 1, 2, none⟩ = some (.int .i64 0) := G2.cell 2
  have s2_2 : w2.cell? ⟨w.heap.size + 1, 2, none⟩ = some (.int .i64 0) := S2.cell 2
  have q2_2 : w2.frozen? ⟨w.heap.size + 1 + 1, 2, none⟩ = false := G2.frozen 2
  have u2_2 : w2.frozen? ⟨w.heap.size + 1, 2, none⟩ = false := S2.frozen 2
  have p2_3 : w2.cell? ⟨w.heap.size + 1 + 1, 3, none⟩ = some (.int .i64 0) := G2.cell 3
  have s2_3 : w2.cell? ⟨w.heap.size + 1, 3, none⟩ = some (.int .i64 0) := S2.cell 3
  have q2_3 : w2.frozen? ⟨w.heap.size + 1 + 1, 3, none⟩ = false := G2.frozen 3
  have u2_3 : w2.frozen? ⟨w.heap.size + 1, 3, none⟩ = false := S2.frozen 3
  have p2_4 : w2.cell? ⟨w.heap.size + 1 + 1, 4, none⟩ = some (.slice none 0 0) := G2.cell 4
  have s2_4 : w2.cell? ⟨w.heap.size + 1, 4, none⟩ = some (.slice none 0 0) := S2.cell 4
  have q2_4 : w2.frozen? ⟨w.heap.size + 1 + 1, 4, none⟩ = false := G2.frozen 4
  have u2_4 : w2.frozen? ⟨w.heap.size + 1, 4, none⟩ = false := S2.frozen 4
  clear y1_1 y1_2 y1_3 y1_4 p1_0 p1_1 p1_2 p1_3 p1_4 s1_0 s1_1 s1_2 s1_3 s1_4 q1_0 q1_1 q1_2 q1_3 q1_4 u1_0 u1_1 u1_2 u1_3 u1_4
  have hc3 : Below w.heap.size w ((((w2).setCell ⟨w.heap.size + 1 + 1, 1, none⟩ ((.slice A1 ins.length p1))).setCell ⟨w.heap.size + 1 + 1, 2, none⟩ (.int .i64 jump)).setCell ⟨w.heap.size + 1 + 1, 3, none⟩ (.int .i64 on)) := (((hb2.setCell (p := ⟨w.heap.size + 1 + 1, 1, none⟩) (by simp; omega) ((.slice A1 ins.length p1))).setCell (p := ⟨w.heap.size + 1 + 1, 2, none⟩) (by simp; omega) (.int .i64 jump)).setCell (p := ⟨w.heap.size + 1 + 1, 3, none⟩) (by simp; omega) (.int .i64 on))
  have B3' : Row ((((w2).setCell ⟨w.heap.size + 1 + 1, 1, none⟩ ((.slice A1 ins.length p1))).setCell ⟨w.heap.size + 1 + 1, 2, none⟩ (.int .i64 jump)).setCell ⟨w.heap.size + 1 + 1, 3, none⟩ (.int .i64 on)) (w.heap.size) 117 #[v0, v1, .int .i64 jump, .int .i64 on, v4] := (((B2.far (p := ⟨w.heap.size + 1 + 1, 1, none⟩) (by simp; omega) ((.slice A1 ins.length p1))).far (p := ⟨w.heap.size + 1 + 1, 2, none⟩) (by simp; omega) (.int .i64 jump)).far (p := ⟨w.heap.size + 1 + 1, 3, none⟩) (by simp; omega) (.int .i64 on))
  have S3' : Row ((((w2).setCell ⟨w.heap.size + 1 + 1, 1, none⟩ ((.slice A1 ins.length p1))).setCell ⟨w.heap.size + 1 + 1, 2, none⟩ (.int .i64 jump)).setCell ⟨w.heap.size + 1 + 1, 3, none⟩ (.int .i64 on)) (w.heap.size + 1) 65 #[.slice none 0 0, .slice none 0 0, .int .i64 0, .int .i64 0, .slice none 0 0] := (((S2.far (p := ⟨w.heap.size + 1 + 1, 1, none⟩) (by simp) ((.slice A1 ins.length p1))).far (p := ⟨w.heap.size + 1 + 1, 2, none⟩) (by simp) (.int .i64 jump)).far (p := ⟨w.heap.size + 1 + 1, 3, none⟩) (by simp) (.int .i64 on))
  have G3' : Row ((((w2).setCell ⟨w.heap.size + 1 + 1, 1, none⟩ ((.slice A1 ins.length p1))).setCell ⟨w.heap.size + 1 + 1, 2, none⟩ (.int .i64 jump)).setCell ⟨w.heap.size + 1 + 1, 3, none⟩ (.int .i64 on)) (w.heap.size + 1 + 1) 65 #[(.slice A0 phis.length p0), (.slice A1 ins.length p1), .int .i64 jump, .int .i64 on, .slice none 0 0] := (((G2.set_ 1 ((.slice A1 ins.length p1))).set_ 2 (.int .i64 jump)).set_ 3 (.int .i64 on))
  have m0' : Same (w.heap.size + 1 + 1 + 1) w1.heap.size w1 ((((w2).setCell ⟨w.heap.size + 1 + 1, 1, none⟩ ((.slice A1 ins.length p1))).setCell ⟨w.heap.size + 1 + 1, 2, none⟩ (.int .i64 jump)).setCell ⟨w.heap.size + 1 + 1, 3, none⟩ (.int .i64 on)) := (((m0.setCell (p := ⟨w.heap.size + 1 + 1, 1, none⟩) (.inl (by simp)) ((.slice A1 ins.length p1))).setCell (p := ⟨w.heap.size + 1 + 1, 2, none⟩) (.inl (by simp)) (.int .i64 jump)).setCell (p := ⟨w.heap.size + 1 + 1, 3, none⟩) (.inl (by simp)) (.int .i64 on))
  have m1' : Same (w.heap.size + 1 + 1 + 1) w2.heap.size w2 ((((w2).setCell ⟨w.heap.size + 1 + 1, 1, none⟩ ((.slice A1 ins.length p1))).setCell ⟨w.heap.size + 1 + 1, 2, none⟩ (.int .i64 jump)).setCell ⟨w.heap.size + 1 + 1, 3, none⟩ (.int .i64 on)) := ((((Same.refl _ _ _).setCell (p := ⟨w.heap.size + 1 + 1, 1, none⟩) (.inl (by simp)) ((.slice A1 ins.length p1))).setCell (p := ⟨w.heap.size + 1 + 1, 2, none⟩) (.inl (by simp)) (.int .i64 jump)).setCell (p := ⟨w.heap.size + 1 + 1, 3, none⟩) (.inl (by simp)) (.int .i64 on))
  have z3' : w.heap.size + 1 + 1 + 1 ≤ ((((w2).setCell ⟨w.heap.size + 1 + 1, 1, none⟩ ((.slice A1 ins.length p1))).setCell ⟨w.heap.size + 1 + 1, 2, none⟩ (.int .i64 jump)).setCell ⟨w.heap.size + 1 + 1, 3, none⟩ (.int .i64 on)).heap.size := by simp [World.setCell]; omega
  have zz3' : w2.heap.size ≤ ((((w2).setCell ⟨w.heap.size + 1 + 1, 1, none⟩ ((.slice A1 ins.length p1))).setCell ⟨w.heap.size + 1 + 1, 2, none⟩ (.int .i64 jump)).setCell ⟨w.heap.size + 1 + 1, 3, none⟩ (.int .i64 on)).heap.size := by simp [World.setCell]
  go_wp2_with fail
  refine (to_IntS next v4 _ lo B (Nat.le_trans hB hc3.size) (by omega) (h4.below hc3 hB)).mono ?_
  rintro e w3 ⟨x4, rfl, hx4, e3⟩
  obtain ⟨A4, p4, rfl, _, _⟩ := (hx4 false).form
  have hb3 : Below w.heap.size w w3 := hc3.trans (e3.mono hc3.size)
  have B3 := B3'.below e3 B3'.lt
  have S3 := S3'.below e3 S3'.lt
  have G3 := G3'.below e3 G3'.lt
  have z3 : w.heap.size + 1 + 1 + 1 ≤ w3.heap.size := Nat.le_trans z3' e3.size
  have ws3 : w2.heap.size ≤ w3.heap.size := Nat.le_trans zz3' e3.size
  have hy4 : ∀ m, Sl m (intS m) w3 (w.heap.size + 1 + 1 + 1) w3.heap.size next (.slice A4 next.length p4) := fun m => (hx4 m).more z3' (Nat.le_refl _)
  have m0 : Same (w.heap.size + 1 + 1 + 1) w1.heap.size w1 w3 := m0'.below e3 (by omega)
  have m1 : Same (w.heap.size + 1 + 1 + 1) w2.heap.size w2 w3 := m1'.below e3 (by omega)
  have p3_0 : w3.cell? ⟨w.heap.size + 1 + 1, 0, none⟩ = some ((.slice A0 phis.length p0)) := G3.cell 0
  have s3_0 : w3.cell? ⟨w.heap.size + 1, 0, none⟩ = some (.slice none 0 0) := S3.cell 0
  have u3_0 : w3.frozen? ⟨w.heap.size + 1, 0, none⟩ = false := S3.frozen 0
  have p3_1 : w3.cell? ⟨w.heap.size + 1 + 1, 1, none⟩ = some ((.slice A1 ins.length p1)) := G3.cell 1
  have s3_1 : w3.cell? ⟨w.heap.size + 1, 1, none⟩ = some (.slice none 0 0) := S3.cell 1
  have u3_1 : w3.frozen? ⟨w.heap.size + 1, 1, none⟩ = false := S3.frozen 1
  have p3_2 : w3.cell? ⟨w.heap.size + 1 + 1, 2, none⟩ = some (.int .i64 jump) := G3.cell 2
  have s3_2 : w3.cell? ⟨w.heap.size + 1, 2, none⟩ = some (.int .i64 0) := S3.cell 2
  have u3_2 : w3.frozen? ⟨w.heap.size + 1, 2, none⟩ = false := S3.frozen 2
  have p3_3 : w3.cell? ⟨w.heap.size + 1 + 1, 3, none⟩ = some (.int .i64 on) := G3.cell 3
  have s3_3 : w3.cell? ⟨w.heap.size + 1, 3, none⟩ = some (.int .i64 0) := S3.cell 3
  have u3_3 : w3.frozen? ⟨w.heap.size + 1, 3, none⟩ = false := S3.frozen 3
  have p3_4 : w3.cell? ⟨w.heap.size + 1 + 1, 4, none⟩ = some (.slice none 0 0) := G3.cell 4
  have s3_4 : w3.cell? ⟨w.heap.size + 1, 4, none⟩ = some (.slice none 0 0) := S3.cell 4
  have q3_4 : w3.frozen? ⟨w.heap.size + 1 + 1, 4, none⟩ = false := G3.frozen 4
  have u3_4 : w3.frozen? ⟨w.heap.size + 1, 4, none⟩ = false := S3.frozen 4
  clear y2_2 y2_3 y2_4 p2_0 p2_1 p2_2 p2_3 p2_4 s2_0 s2_1 s2_2 s2_3 s2_4 q2_1 q2_2 q2_3 q2_4 u2_0 u2_1 u2_2 u2_3 u2_4
  go_wp2_with fail
  refine bodyPost_ret (v := .agg #[.slice A0 phis.length p0, .slice A1 ins.length p1, .int .i64 jump, .int .i64 on, .slice A4 next.length p4]) (by simp [results, Try.results98, go_sem, s3_0, s3_1, s3_2, s3_3, s3_4]) rfl ⟨[.slice A0 phis.length p0, .slice A1 ins.length p1, .int .i64 jump, .int .i64 on, .slice A4 next.length p4], rfl, fun m => ?_, ?_⟩
  · exact blk_mk m phis _ ins _ jump on next _ ((hy0 m).keep (by omega) (by simp [World.setCell]; omega) (((((((m0.setCell (p := ⟨w.heap.size + 1 + 1, 4, none⟩) (.inl (by simp)) ((.slice A4 next.length p4))).setCell (p := ⟨w.heap.size + 1, 0, none⟩) (.inl (by simp)) (.slice A0 phis.length p0)).setCell (p := ⟨w.heap.size + 1, 1, none⟩) (.inl (by simp)) (.slice A1 ins.length p1)).setCell (p := ⟨w.heap.size + 1, 2, none⟩) (.inl (by simp)) (.int .i64 jump)).setCell (p := ⟨w.heap.size + 1, 3, none⟩) (.inl (by simp)) (.int .i64 on)).setCell (p := ⟨w.heap.size + 1, 4, none⟩) (.inl (by simp)) (.slice A4 next.length p4)))) ((hy1 m).keep (by omega) (by simp [World.setCell]; omega) (((((((m1.setCell (p := ⟨w.heap.size + 1 + 1, 4, none⟩) (.inl (by simp)) ((.slice A4 next.length p4))).setCell (p := ⟨w.heap.size + 1, 0, none⟩) (.inl (by simp)) (.slice A0 phis.length p0)).setCell (p := ⟨w.heap.size + 1, 1, none⟩) (.inl (by simp)) (.slice A1 ins.length p1)).setCell (p := ⟨w.heap.size + 1, 2, none⟩) (.inl (by simp)) (.int .i64 jump)).setCell (p := ⟨w.heap.size + 1, 3, none⟩) (.inl (by simp)) (.int .i64 on)).setCell (p := ⟨w.heap.size + 1, 4, none⟩) (.inl (by simp)) (.slice A4 next.length p4)))) h2 h3 ((hy4 m).keep (by omega) (by simp [World.setCell]) ((((((((Same.refl _ _ _).setCell (p := ⟨w.heap.size + 1 + 1, 4, none⟩) (.inl (by simp)) ((.slice A4 next.length p4))).setCell (p := ⟨w.heap.size + 1, 0, none⟩) (.inl (by simp)) (.slice A0 phis.length p0)).setCell (p := ⟨w.heap.size + 1, 1, none⟩) (.inl (by simp)) (.slice A1 ins.length p1)).setCell (p := ⟨w.heap.size + 1, 2, none⟩) (.inl (by simp)) (.int .i64 jump)).setCell (p := ⟨w.heap.size + 1, 3, none⟩) (.inl (by simp)) (.int .i64 on)).setCell (p := ⟨w.heap.size + 1, 4, none⟩) (.inl (by simp)) (.slice A4 next.length p4))))
  · exact ((((((hb3.setCell (p := ⟨w.heap.size + 1 + 1, 4, none⟩) (by simp; omega) ((.slice A4 next.length p4))).setCell (p := ⟨w.heap.size + 1, 0, none⟩) (by simp) (.slice A0 phis.length p0)).setCell (p := ⟨w.heap.size + 1, 1, none⟩) (by simp) (.slice A1 ins.length p1)).setCell (p := ⟨w.heap.size + 1, 2, none⟩) (by simp) (.int .i64 jump)).setCell (p := ⟨w.heap.size + 1, 3, none⟩) (by simp) (.int .i64 on)).setCell (p := ⟨w.heap.size + 1, 4, none⟩) (by simp) (.slice A4 next.length p4))

theorem Try.info_Block : (Try.prog.info? 65).map (fun i => (i.zero, i.size, i.bytes)) = some (some (.agg #[.slice none 0 0, .slice none 0 0, .int .i64 0, .int .i64 0, .slice none 0 0]), 5, 88) := by kernel_rfl
theorem to_BlockS (l : List BlkD) (v : Value) (w : World) (lo B : Nat) (hB : B ≤ w.heap.size) (hN : (l.length + sumBy blkN l) ≤ 1048576) (hv : Sl false (blkS false) w lo B l v) :
    Calls Try.prog 69 #[v] w (ToSP (fun m => (blkS m)) l w) := by
  obtain ⟨A, cap, rfl, hlc, hcm⟩ := hv.form
  have hlen : l.length ≤ 1048576 := by omega
  obtain ⟨i0, hi, hz0, hz1, hz2⟩ := info_parts Try.info_Block
  go_enter Try.func69, Try.ntmps69
  go_wp2_with (at_make; refine wpList_make_full _ rfl _ _ 37 rfl w.heap.size 65 i0 _ 5 Try.underlying37 hi hz0 hz1 _ _ _ _ l.length rfl rfl rfl rfl ?c1 ?c2 (Nat.le_refl _) ?c3)
  case c1 => rw [hz2]; omega
  case c2 => unfold maxLen; omega
  case c3 =>
    intro w1 hown hgrow
    obtain ⟨cur0, hr0, hs0, hb0, _, _, _⟩ := Row.of_own hown
    have hb1 : Below w.heap.size w w1 := (Below.refl _ _).grown hgrow (Nat.le_refl _) (fun k hk => by cases hk)
    obtain ⟨g, hg⟩ : ∃ g, g = w.heap.size := ⟨_, rfl⟩
    rw [← hg] at hr0 ⊢
    have hge : w.heap.size ≤ g := Nat.le_of_eq hg.symm
    have HG : Hid (g = w.heap.size) := hg
    clear hg hown hgrow hi hz0 hz1 hz2 hb0
    go_wp2_with fail
    go_loopw [4] (fun i wr => ∃ (k : Nat) (cur : Array Value), k ≤ l.length ∧ i = .int .i64 k ∧ Row wr g 65 cur ∧ cur.size = l.length * 5 ∧ (∀ m, Elems (blkS m) wr (g + 1) wr.heap.size cur k l) ∧ Below w.heap.size w wr) (fun i _ => l.length - (intOf i).toNat)
    case atStart => exact ⟨0, cur0, by omega, rfl, hr0, by simpa using hs0, fun m => Elems.zero _ _ _ _ _ _, hb1⟩
    case round =>
      obtain ⟨k, cur, hk, rfl, hrow, hcs, hdone, hb⟩ := hrel
      have hgl := hrow.lt
      have hsz := hb.size
      by_cases hkl : k < l.length
      · obtain ⟨b, o, phis, v0, ins, v1, jump, on, next, v4, rfl, _, _, HL, g0, g1, g2, g3, g4, c0, c1, c2, c3, c4⟩ := blk_get (hv.below hb hB) hkl
        have HC : Hid (cur.size = l.length * 5) := hcs
        have hk2 : k * 5 + 4 < cur.size := by omega
        clear hcs
        have hN1 : (phis.length + sumBy phiN phis) + (ins.length + sumBy insN ins) + next.length ≤ 1048576 := by
          have h1 := sumBy_mem blkN (List.getElem_mem hkl)
          rw [HL.out] at h1
          simp only [blkN] at h1
          omega
        go_wp2_with fail
        refine (to_Block phis v0 ins v1 jump on next v4 _ lo B (by omega) hN1 g0 g1 g2 g3 g4).mono ?_
        rintro e w2 ⟨cs, rfl, hx, hb2⟩
        obtain ⟨x0, x1, x4, rfl, t0, t1, t2, t3, t4⟩ := blk_open (hx false)
        obtain ⟨A0, p0, hxx0, _, _⟩ := t0.form
        change _ = Value.slice A0 phis.length p0 at hxx0
        subst hxx0
        obtain ⟨A1, p1, hxx1, _, _⟩ := t1.form
        change _ = Value.slice A1 ins.length p1 at hxx1
        subst hxx1
        obtain ⟨A4, p4, hxx4, _, _⟩ := t4.form
        change _ = Value.slice A4 next.length p4 at hxx4
        subst hxx4
        have hr2 := hrow.below hb2 hgl
        have hsz2 := hb2.size
        obtain ⟨z0, hz0⟩ := hr2.cellAt (i := k * 5) (by omega)
        have hf0 := hr2.frozen (k * 5)
        obtain ⟨z1, hz1⟩ := hr2.cellAt (i := k * 5 + 1) (by omega)
        have hf1 := hr2.frozen (k * 5 + 1)
        obtain ⟨z2, hz2⟩ := hr2.cellAt (i := k * 5 + 2) (by omega)
        have hf2 := hr2.frozen (k * 5 + 2)
        obtain ⟨z3, hz3⟩ := hr2.cellAt (i := k * 5 + 3) (by omega)
        have hf3 := hr2.frozen (k * 5 + 3)
        obtain ⟨z4, hz4⟩ := hr2.cellAt (i := k * 5 + 4) (by omega)
        have hf4 := hr2.frozen (k * 5 + 4)
        clear t0 t1 t2 t3 t4
        go_wp2_with fail
        go_roundw
        case rel =>
          refine ⟨k + 1, _, by omega, by go_num, (((((hr2.set_ (k * 5) (.slice A0 phis.length p0)).set_ (k * 5 + 1) (.slice A1 ins.length p1)).set_ (k * 5 + 2) (.int .i64 jump)).set_ (k * 5 + 3) (.int .i64 on)).set_ (k * 5 + 4) (.slice A4 next.length p4)), by simpa using HC.out, fun m => ?_, ?_⟩
          · have hs1 : Same (g + 1) w2.heap.size w2 ((((((w2).setCell ⟨g, k * 5, none⟩ (.slice A0 phis.length p0)).setCell ⟨g, k * 5 + 1, none⟩ (.slice A1 ins.length p1)).setCell ⟨g, k * 5 + 2, none⟩ (.int .i64 jump)).setCell ⟨g, k * 5 + 3, none⟩ (.int .i64 on)).setCell ⟨g, k * 5 + 4, none⟩ (.slice A4 next.length p4)) := ((((((Same.refl _ _ _).setCell (p := ⟨g, k * 5, none⟩) (.inl (by simp)) (.slice A0 phis.length p0)).setCell (p := ⟨g, k * 5 + 1, none⟩) (.inl (by simp)) (.slice A1 ins.length p1)).setCell (p := ⟨g, k * 5 + 2, none⟩) (.inl (by simp)) (.int .i64 jump)).setCell (p := ⟨g, k * 5 + 3, none⟩) (.inl (by simp)) (.int .i64 on)).setCell (p := ⟨g, k * 5 + 4, none⟩) (.inl (by simp)) (.slice A4 next.length p4))
            have hold : Elems (blkS m) ((((((w2).setCell ⟨g, k * 5, none⟩ (.slice A0 phis.length p0)).setCell ⟨g, k * 5 + 1, none⟩ (.slice A1 ins.length p1)).setCell ⟨g, k * 5 + 2, none⟩ (.int .i64 jump)).setCell ⟨g, k * 5 + 3, none⟩ (.int .i64 on)).setCell ⟨g, k * 5 + 4, none⟩ (.slice A4 next.length p4)) (g + 1) w2.heap.size cur k l := (hdone m).keep (Nat.le_refl _) hsz2 (fun b h1 h2 => (hs1 b h1 (by omega)).trans (hb2.block b h2))
            have hnew : (blkS m).rep ((((((w2).setCell ⟨g, k * 5, none⟩ (.slice A0 phis.length p0)).setCell ⟨g, k * 5 + 1, none⟩ (.slice A1 ins.length p1)).setCell ⟨g, k * 5 + 2, none⟩ (.int .i64 jump)).setCell ⟨g, k * 5 + 3, none⟩ (.int .i64 on)).setCell ⟨g, k * 5 + 4, none⟩ (.slice A4 next.length p4)) (g + 1) w2.heap.size ((⟨phis, ins, jump, on, next⟩ : BlkD)) [.slice A0 phis.length p0, .slice A1 ins.length p1, .int .i64 jump, .int .i64 on, .slice A4 next.length p4] := (blkS m).keep (hx m) (by omega) (Nat.le_refl _) (fun b h1 h2 => hs1 b (by omega) h2)
            have hsz3 : w2.heap.size ≤ ((((((w2).setCell ⟨g, k * 5, none⟩ (.slice A0 phis.length p0)).setCell ⟨g, k * 5 + 1, none⟩ (.slice A1 ins.length p1)).setCell ⟨g, k * 5 + 2, none⟩ (.int .i64 jump)).setCell ⟨g, k * 5 + 3, none⟩ (.int .i64 on)).setCell ⟨g, k * 5 + 4, none⟩ (.slice A4 next.length p4)).heap.size := by simp [World.setCell]
            refine Elems.succ (k := k) (a := (⟨phis, ins, jump, on, next⟩ : BlkD)) (cs := [.slice A0 phis.length p0, .slice A1 ins.length p1, .int .i64 jump, .int .i64 on, .slice A4 next.length p4]) (hold.keep (Nat.le_refl _) hsz3 (fun _ _ _ => rfl)) (by rw [List.getElem?_eq_getElem hkl, HL.out]) ((blkS m).more hnew (Nat.le_refl _) hsz3) ?_ ?_
            · intro j hj
              have hj' : j < k * 5 := by simpa [blkS] using hj
              rw [set_ne (by omega), set_ne (by omega), set_ne (by omega), set_ne (by omega), set_ne (by omega)]
            · intro j u hu
              match j, hu with
              | 0, hu =>
                have hu' := Option.some.inj hu
                subst hu'
                refine (show (_ : Array Value)[k * 5]? = _ from ?_)
                rw [set_ne (by omega), set_ne (by omega), set_ne (by omega), set_ne (by omega)]
                exact set_same (by first | omega | (simp only [Array.size_setIfInBounds]; omega)) _
              | 1, hu =>
                have hu' := Option.some.inj hu
                subst hu'
                refine (show (_ : Array Value)[k * 5 + 1]? = _ from ?_)
                rw [set_ne (by omega), set_ne (by omega), set_ne (by omega)]
                exact set_same (by first | omega | (simp only [Array.size_setIfInBounds]; omega)) _
              | 2, hu =>
                have hu' := Option.some.inj hu
                subst hu'
                refine (show (_ : Array Value)[k * 5 + 2]? = _ from ?_)
                rw [set_ne (by omega), set_ne (by omega)]
                exact set_same (by first | omega | (simp only [Array.size_setIfInBounds]; omega)) _
              | 3, hu =>
                have hu' := Option.some.inj hu
                subst hu'
                refine (show (_ : Array Value)[k * 5 + 3]? = _ from ?_)
                rw [set_ne (by omega)]
                exact set_same (by first | omega | (simp only [Array.size_setIfInBounds]; omega)) _
              | 4, hu =>
                have hu' := Option.some.inj hu
                subst hu'
                refine (show (_ : Array Value)[k * 5 + 4]? = _ from ?_)
                exact set_same (by first | omega | (simp only [Array.size_setIfInBounds]; omega)) _
          · exact ((((((hb.trans (hb2.mono hb.size)).setCell (p := ⟨g, k * 5, none⟩) hge (.slice A0 phis.length p0)).setCell (p := ⟨g, k * 5 + 1, none⟩) hge (.slice A1 ins.length p1)).setCell (p := ⟨g, k * 5 + 2, none⟩) hge (.int .i64 jump)).setCell (p := ⟨g, k * 5 + 3, none⟩) hge (.int .i64 on)).setCell (p := ⟨g, k * 5 + 4, none⟩) hge (.slice A4 next.length p4))
        case measure => simp [intOf]; omega
      · obtain rfl : k = l.length := by omega
        go_wp2_with fail
        go_ret
        exact ⟨_, rfl, fun m => Sl.of_row hrow hge hgl (Nat.le_refl _) (by unfold maxLen; omega) ((hdone m).keep (by omega) (Nat.le_refl _) (fun _ _ _ => rfl)), hb⟩

theorem to_Code (params : Int) (regs : Int) (blocks : List BlkD) (v2 : Value) (w : World) (lo B : Nat) (hB : B ≤ w.heap.size) (hN : (blocks.length + sumBy blkN blocks) ≤ 1048576) (h0 : I64 params) (h1 : I64 regs) (h2 : Sl false (blkS false) w lo B blocks v2) :
    Calls Try.prog 40 #[.agg #[.int .i64 params, .int .i64 regs, v2]] w (ToP (fun m => (codeS m)) (⟨params, regs, blocks⟩ : CodeD) w) := by
  go_enter Try.func40, Try.ntmps40
  have hb0 : Below w.heap.size w (((w.alloc (.cells #[.int .i64 params, .int .i64 regs, v2] 60)).alloc (.cells #[.int .i64 0, .int .i64 0, .slice none 0 0] 39)).alloc (.cells #[.int .i64 params, .int .i64 regs, .slice none 0 0] 39)) := (((Below.refl _ _).alloc (Nat.le_refl _) _).alloc (by simp) _).alloc (by simp; omega) _
  have B0 : Row (((w.alloc (.cells #[.int .i64 params, .int .i64 regs, v2] 60)).alloc (.cells #[.int .i64 0, .int .i64 0, .slice none 0 0] 39)).alloc (.cells #[.int .i64 params, .int .i64 regs, .slice none 0 0] 39)) (w.heap.size) 60 #[.int .i64 params, .int .i64 regs, v2] := ((Row.new w _ _).alloc _).alloc _
  have S0 : Row (((w.alloc (.cells #[.int .i64 params, .int .i64 regs, v2] 60)).alloc (.cells #[.int .i64 0, .int .i64 0, .slice none 0 0] 39)).alloc (.cells #[.int .i64 params, .int .i64 regs, .slice none 0 0] 39)) (w.heap.size + 1) 39 #[.int .i64 0, .int .i64 0, .slice none 0 0] := by simpa using (Row.new (w.alloc (.cells #[.int .i64 params, .int .i64 regs, v2] 60)) 39 #[.int .i64 0, .int .i64 0, .slice none 0 0]).alloc (.cells #[.int .i64 params, .int .i64 regs, .slice none 0 0] 39)
  have G0 : Row (((w.alloc (.cells #[.int .i64 params, .int .i64 regs, v2] 60)).alloc (.cells #[.int .i64 0, .int .i64 0, .slice none 0 0] 39)).alloc (.cells #[.int .i64 params, .int .i64 regs, .slice none 0 0] 39)) (w.heap.size + 1 + 1) 39 #[.int .i64 params, .int .i64 regs, .slice none 0 0] := by simpa using Row.new ((w.alloc (.cells #[.int .i64 params, .int .i64 regs, v2] 60)).alloc (.cells #[.int .i64 0, .int .i64 0, .slice none 0 0] 39)) 39 #[.int .i64 params, .int .i64 regs, .slice none 0 0]
  have z0 : w.heap.size + 1 + 1 + 1 ≤ (((w.alloc (.cells #[.int .i64 params, .int .i64 regs, v2] 60)).alloc (.cells #[.int .i64 0, .int .i64 0, .slice none 0 0] 39)).alloc (.cells #[.int .i64 params, .int .i64 regs, .slice none 0 0] 39)).heap.size := by simp
  go_wp2_with fail
  refine (to_BlockS blocks v2 _ lo B (Nat.le_trans hB hb0.size) (by omega) (h2.below hb0 hB)).mono ?_
  rintro e w1 ⟨x2, rfl, hx2, e1⟩
  obtain ⟨A2, p2, rfl, _, _⟩ := (hx2 false).form
  have hb1 : Below w.heap.size w w1 := hb0.trans (e1.mono hb0.size)
  have B1 := B0.below e1 B0.lt
  have S1 := S0.below e1 S0.lt
  have G1 := G0.below e1 G0.lt
  have z1 : w.heap.size + 1 + 1 + 1 ≤ w1.heap.size := Nat.le_trans z0 e1.size
  have hy2 : ∀ m, Sl m (blkS m) w1 (w.heap.size + 1 + 1 + 1) w1.heap.size blocks (.slice A2 blocks.length p2) := fun m => (hx2 m).more z0 (Nat.le_refl _)
  have p1_0 : w1.cell? ⟨w.heap.size + 1 + 1, 0, none⟩ = some (.int .i64 params) := G1.cell 0
  have s1_0 : w1.cell? ⟨w.heap.size + 1, 0, none⟩ = some (.int .i64 0) := S1.cell 0
  have u1_0 : w1.frozen? ⟨w.heap.size + 1, 0, none⟩ = false := S1.frozen 0
  have p1_1 : w1.cell? ⟨w.heap.size + 1 + 1, 1, none⟩ = some (.int .i64 regs) := G1.cell 1
  have s1_1 : w1.cell? ⟨w.heap.size + 1, 1, none⟩ = some (.int .i64 0) := S1.cell 1
  have u1_1 : w1.frozen? ⟨w.heap.size + 1, 1, none⟩ = false := S1.frozen 1
  have p1_2 : w1.cell? ⟨w.heap.size + 1 + 1, 2, none⟩ = some (.slice none 0 0) := G1.cell 2
  have s1_2 : w1.cell? ⟨w.heap.size + 1, 2, none⟩ = some (.slice none 0 0) := S1.cell 2
  have q1_2 : w1.frozen? ⟨w.heap.size + 1 + 1, 2, none⟩ = false := G1.frozen 2
  have u1_2 : w1.frozen? ⟨w.heap.size + 1, 2, none⟩ = false := S1.frozen 2
  go_wp2_with fail
  refine bodyPost_ret (v := .agg #[.int .i64 params, .int .i64 regs, .slice A2 blocks.length p2]) (by simp [results, Try.results40, go_sem, s1_0, s1_1, s1_2]) rfl ⟨[.int .i64 params, .int .i64 regs, .slice A2 blocks.length p2], rfl, fun m => ?_, ?_⟩
  · exact code_mk m params regs blocks _ h0 h1 ((hy2 m).keep (by omega) (by simp [World.setCell]) ((((((Same.refl _ _ _).setCell (p := ⟨w.heap.size + 1 + 1, 2, none⟩) (.inl (by simp)) ((.slice A2 blocks.length p2))).setCell (p := ⟨w.heap.size + 1, 0, none⟩) (.inl (by simp)) (.int .i64 params)).setCell (p := ⟨w.heap.size + 1, 1, none⟩) (.inl (by simp)) (.int .i64 regs)).setCell (p := ⟨w.heap.size + 1, 2, none⟩) (.inl (by simp)) (.slice A2 blocks.length p2))))
  · exact ((((hb1.setCell (p := ⟨w.heap.size + 1 + 1, 2, none⟩) (by simp; omega) ((.slice A2 blocks.length p2))).setCell (p := ⟨w.heap.size + 1, 0, none⟩) (by simp) (.int .i64 params)).setCell (p := ⟨w.heap.size + 1, 1, none⟩) (by simp) (.int .i64 regs)).setCell (p := ⟨w.heap.size + 1, 2, none⟩) (by simp) (.slice A2 blocks.length p2))

theorem Try.info_Code : (Try.prog.info? 39).map (fun i => (i.zero, i.size, i.bytes)) = some (some (.agg #[.int .i64 0, .int .i64 0, .slice none 0 0]), 3, 40) := by kernel_rfl
theorem to_CodeS (l : List CodeD) (v : Value) (w : World) (lo B : Nat) (hB : B ≤ w.heap.size) (hN : (l.length + sumBy codeN l) ≤ 1048576) (hv : Sl false (codeS false) w lo B l v) :
    Calls Try.prog 20 #[v] w (ToSP (fun m => (codeS m)) l w) := by
  obtain ⟨A, cap, rfl, hlc, hcm⟩ := hv.form
  have hlen : l.length ≤ 1048576 := by omega
  obtain ⟨i0, hi, hz0, hz1, hz2⟩ := info_parts Try.info_Code
  go_enter Try.func20, Try.ntmps20
  go_wp2_with (at_make; refine wpList_make_full _ rfl _ _ 26 rfl w.heap.size 39 i0 _ 3 Try.underlying26 hi hz0 hz1 _ _ _ _ l.length rfl rfl rfl rfl ?c1 ?c2 (Nat.le_refl _) ?c3)
  case c1 => rw [hz2]; omega
  case c2 => unfold maxLen; omega
  case c3 =>
    intro w1 hown hgrow
    obtain ⟨cur0, hr0, hs0, hb0, _, _, _⟩ := Row.of_own hown
    have hb1 : Below w.heap.size w w1 := (Below.refl _ _).grown hgrow (Nat.le_refl _) (fun k hk => by cases hk)
    obtain ⟨g, hg⟩ : ∃ g, g = w.heap.size := ⟨_, rfl⟩
    rw [← hg] at hr0 ⊢
    have hge : w.heap.size ≤ g := Nat.le_of_eq hg.symm
    have HG : Hid (g = w.heap.size) := hg
    clear hg hown hgrow hi hz0 hz1 hz2 hb0
    go_wp2_with fail
    go_loopw [4] (fun i wr => ∃ (k : Nat) (cur : Array Value), k ≤ l.length ∧ i = .int .i64 k ∧ Row wr g 39 cur ∧ cur.size = l.length * 3 ∧ (∀ m, Elems (codeS m) wr (g + 1) wr.heap.size cur k l) ∧ Below w.heap.size w wr) (fun i _ => l.length - (intOf i).toNat)
    case atStart => exact ⟨0, cur0, by omega, rfl, hr0, by simpa using hs0, fun m => Elems.zero _ _ _ _ _ _, hb1⟩
    case round =>
      obtain ⟨k, cur, hk, rfl, hrow, hcs, hdone, hb⟩ := hrel
      have hgl := hrow.lt
      have hsz := hb.size
      by_cases hkl : k < l.length
      · obtain ⟨b, o, params, regs, blocks, v2, rfl, _, _, HL, g0, g1, g2, c0, c1, c2⟩ := code_get (hv.below hb hB) hkl
        have HC : Hid (cur.size = l.length * 3) := hcs
        have hk2 : k * 3 + 2 < cur.size := by omega
        clear hcs
        have hN1 : (blocks.length + sumBy blkN blocks) ≤ 1048576 := by
          have h1 := sumBy_mem codeN (List.getElem_mem hkl)
          rw [HL.out] at h1
          simp only [codeN] at h1
          omega
        go_wp2_with fail
        refine (to_Code params regs blocks v2 _ lo B (by omega) hN1 g0 g1 g2).mono ?_
        rintro e w2 ⟨cs, rfl, hx, hb2⟩
        obtain ⟨x2, rfl, t0, t1, t2⟩ := code_open (hx false)
        obtain ⟨A2, p2, hxx2, _, _⟩ := t2.form
        change _ = Value.slice A2 blocks.length p2 at hxx2
        subst hxx2
        have hr2 := hrow.below hb2 hgl
        have hsz2 := hb2.size
        obtain ⟨z0, hz0⟩ := hr2.cellAt (i := k * 3) (by omega)
        have hf0 := hr2.frozen (k * 3)
        obtain ⟨z1, hz1⟩ := hr2.cellAt (i := k * 3 + 1) (by omega)
        have hf1 := hr2.frozen (k * 3 + 1)
        obtain ⟨z2, hz2⟩ := hr2.cellAt (i := k * 3 + 2) (by omega)
        have hf2 := hr2.frozen (k * 3 + 2)
        clear t0 t1 t2
        go_wp2_with fail
        go_roundw
        case rel =>
          refine ⟨k + 1, _, by omega, by go_num, (((hr2.set_ (k * 3) (.int .i64 params)).set_ (k * 3 + 1) (.int .i64 regs)).set_ (k * 3 + 2) (.slice A2 blocks.length p2)), by simpa using HC.out, fun m => ?_, ?_⟩
          · have hs1 : Same (g + 1) w2.heap.size w2 ((((w2).setCell ⟨g, k * 3, none⟩ (.int .i64 params)).setCell ⟨g, k * 3 + 1, none⟩ (.int .i64 regs)).setCell ⟨g, k * 3 + 2, none⟩ (.slice A2 blocks.length p2)) := ((((Same.refl _ _ _).setCell (p := ⟨g, k * 3, none⟩) (.inl (by simp)) (.int .i64 params)).setCell (p := ⟨g, k * 3 + 1, none⟩) (.inl (by simp)) (.int .i64 regs)).setCell (p := ⟨g, k * 3 + 2, none⟩) (.inl (by simp)) (.slice A2 blocks.length p2))
            have hold : Elems (codeS m) ((((w2).setCell ⟨g, k * 3, none⟩ (.int .i64 params)).setCell ⟨g, k * 3 + 1, none⟩ (.int .i64 regs)).setCell ⟨g, k * 3 + 2, none⟩ (.slice A2 blocks.length p2)) (g + 1) w2.heap.size cur k l := (hdone m).keep (Nat.le_refl _) hsz2 (fun b h1 h2 => (hs1 b h1 (by omega)).trans (hb2.block b h2))
            have hnew : (codeS m).rep ((((w2).setCell ⟨g, k * 3, none⟩ (.int .i64 params)).setCell ⟨g, k * 3 + 1, none⟩ (.int .i64 regs)).setCell ⟨g, k * 3 + 2, none⟩ (.slice A2 blocks.length p2)) (g + 1) w2.heap.size ((⟨params, regs, blocks⟩ : CodeD)) [.int .i64 params, .int .i64 regs, .slice A2 blocks.length p2] := (codeS m).keep (hx m) (by omega) (Nat.le_refl _) (fun b h1 h2 => hs1 b (by omega) h2)
            have hsz3 : w2.heap.size ≤ ((((w2).setCell ⟨g, k * 3, none⟩ (.int .i64 params)).setCell ⟨g, k * 3 + 1, none⟩ (.int .i64 regs)).setCell ⟨g, k * 3 + 2, none⟩ (.slice A2 blocks.length p2)).heap.size := by simp [World.setCell]
            refine Elems.succ (k := k) (a := (⟨params, regs, blocks⟩ : CodeD)) (cs := [.int .i64 params, .int .i64 regs, .slice A2 blocks.length p2]) (hold.keep (Nat.le_refl _) hsz3 (fun _ _ _ => rfl)) (by rw [List.getElem?_eq_getElem hkl, HL.out]) ((codeS m).more hnew (Nat.le_refl _) hsz3) ?_ ?_
            · intro j hj
              have hj' : j < k * 3 := by simpa [codeS] using hj
              rw [set_ne (by omega), set_ne (by omega), set_ne (by omega)]
            · intro j u hu
              match j, hu with
              | 0, hu =>
                have hu' := Option.some.inj hu
                subst hu'
                refine (show (_ : Array Value)[k * 3]? = _ from ?_)
                rw [set_ne (by omega), set_ne (by omega)]
                exact set_same (by first | omega | (simp only [Array.size_setIfInBounds]; omega)) _
              | 1, hu =>
                have hu' := Option.some.inj hu
                subst hu'
                refine (show (_ : Array Value)[k * 3 + 1]? = _ from ?_)
                rw [set_ne (by omega)]
                exact set_same (by first | omega | (simp only [Array.size_setIfInBounds]; omega)) _
              | 2, hu =>
                have hu' := Option.some.inj hu
                subst hu'
                refine (show (_ : Array Value)[k * 3 + 2]? = _ from ?_)
                exact set_same (by first | omega | (simp only [Array.size_setIfInBounds]; omega)) _
          · exact ((((hb.trans (hb2.mono hb.size)).setCell (p := ⟨g, k * 3, none⟩) hge (.int .i64 params)).setCell (p := ⟨g, k * 3 + 1, none⟩) hge (.int .i64 regs)).setCell (p := ⟨g, k * 3 + 2, none⟩) hge (.slice A2 blocks.length p2))
        case measure => simp [intOf]; omega
      · obtain rfl : k = l.length := by omega
        go_wp2_with fail
        go_ret
        exact ⟨_, rfl, fun m => Sl.of_row hrow hge hgl (Nat.le_refl _) (by unfold maxLen; omega) ((hdone m).keep (by omega) (Nat.le_refl _) (fun _ _ _ => rfl)), hb⟩

theorem to_Unit (codes : List CodeD) (v0 : Value) (w : World) (lo B : Nat) (hB : B ≤ w.heap.size) (hN : (codes.length + sumBy codeN codes) ≤ 1048576) (h0 : Sl false (codeS false) w lo B codes v0) :
    Calls Try.prog 7 #[.agg #[v0]] w (ToP (fun m => (unitS m)) (⟨codes⟩ : UnitD) w) := by
  go_enter Try.func7, Try.ntmps7
  have hb0 : Below w.heap.size w (((w.alloc (.cells #[v0] 24)).alloc (.cells #[.slice none 0 0] 28)).alloc (.cells #[.slice none 0 0] 28)) := (((Below.refl _ _).alloc (Nat.le_refl _) _).alloc (by simp) _).alloc (by simp; omega) _
  have B0 : Row (((w.alloc (.cells #[v0] 24)).alloc (.cells #[.slice none 0 0] 28)).alloc (.cells #[.slice none 0 0] 28)) (w.heap.size) 24 #[v0] := ((Row.new w _ _).alloc _).alloc _
  have S0 : Row (((w.alloc (.cells #[v0] 24)).alloc (.cells #[.slice none 0 0] 28)).alloc (.cells #[.slice none 0 0] 28)) (w.heap.size + 1) 28 #[.slice none 0 0] := by simpa using (Row.new (w.alloc (.cells #[v0] 24)) 28 #[.slice none 0 0]).alloc (.cells #[.slice none 0 0] 28)
  have G0 : Row (((w.alloc (.cells #[v0] 24)).alloc (.cells #[.slice none 0 0] 28)).alloc (.cells #[.slice none 0 0] 28)) (w.heap.size + 1 + 1) 28 #[.slice none 0 0] := by simpa using Row.new ((w.alloc (.cells #[v0] 24)).alloc (.cells #[.slice none 0 0] 28)) 28 #[.slice none 0 0]
  have z0 : w.heap.size + 1 + 1 + 1 ≤ (((w.alloc (.cells #[v0] 24)).alloc (.cells #[.slice none 0 0] 28)).alloc (.cells #[.slice none 0 0] 28)).heap.size := by simp
  go_wp2_with fail
  refine (to_CodeS codes v0 _ lo B (Nat.le_trans hB hb0.size) (by omega) (h0.below hb0 hB)).mono ?_
  rintro e w1 ⟨x0, rfl, hx0, e1⟩
  obtain ⟨A0, p0, rfl, _, _⟩ := (hx0 false).form
  have hb1 : Below w.heap.size w w1 := hb0.trans (e1.mono hb0.size)
  have B1 := B0.below e1 B0.lt
  have S1 := S0.below e1 S0.lt
  have G1 := G0.below e1 G0.lt
  have z1 : w.heap.size + 1 + 1 + 1 ≤ w1.heap.size := Nat.le_trans z0 e1.size
  have hy0 : ∀ m, Sl m (codeS m) w1 (w.heap.size + 1 + 1 + 1) w1.heap.size codes (.slice A0 codes.length p0) := fun m => (hx0 m).more z0 (Nat.le_refl _)
  have p1_0 : w1.cell? ⟨w.heap.size + 1 + 1, 0, none⟩ = some (.slice none 0 0) := G1.cell 0
  have s1_0 : w1.cell? ⟨w.heap.size + 1, 0, none⟩ = some (.slice none 0 0) := S1.cell 0
  have q1_0 : w1.frozen? ⟨w.heap.size + 1 + 1, 0, none⟩ = false := G1.frozen 0
  have u1_0 : w1.frozen? ⟨w.heap.size + 1, 0, none⟩ = false := S1.frozen 0
  go_wp2_with fail
  refine bodyPost_ret (v := .agg #[.slice A0 codes.length p0]) (by simp [results, Try.results7, go_sem, s1_0]) rfl ⟨[.slice A0 codes.length p0], rfl, fun m => ?_, ?_⟩
  · exact unit_mk m codes _ ((hy0 m).keep (by omega) (by simp [World.setCell]) ((((Same.refl _ _ _).setCell (p := ⟨w.heap.size + 1 + 1, 0, none⟩) (.inl (by simp)) ((.slice A0 codes.length p0))).setCell (p := ⟨w.heap.size + 1, 0, none⟩) (.inl (by simp)) (.slice A0 codes.length p0))))
  · exact ((hb1.setCell (p := ⟨w.heap.size + 1 + 1, 0, none⟩) (by simp; omega) ((.slice A0 codes.length p0))).setCell (p := ⟨w.heap.size + 1, 0, none⟩) (by simp) (.slice A0 codes.length p0))

end Go.Proofs.Ytgcjccoglcgcoaa

