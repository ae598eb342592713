/-
  The to.. functions: they answer the same datum in new memory. Conditions: the arguments read as data, of size at most 1048576.
-/
import Derived.Test.YtbikgakoeheahaaGreatDoorSz
namespace Go.Proofs.YtbikgakoeheahaaGreatDoor
open Go.RowKit Go.ChangeShapes Go.WideShapes Go.Deep

/-- between lo and B the world w' is as w was -/
def Same (lo B : Nat) (w w' : World) : Prop := ∀ b : Nat, lo ≤ b → b < B → w'.heap[b]? = w.heap[b]?
theorem Same.refl (lo B : Nat) (w : World) : Same lo B w w := fun _ _ _ => rfl
theorem Same.setCell {lo B : Nat} {w w' : World} (h : Same lo B w w') {p : Addr} (hp : p.block < lo ∨ B ≤ p.block) (u : Value) : Same lo B w (w'.setCell p u) := fun b h1 h2 => (Below.heap_setCell w' p u b (by omega)).trans (h b h1 h2)
theorem Same.below {lo B B' : Nat} {w w' w'' : World} (h : Same lo B w w') (hb : Below B' w' w'') (hB : B ≤ B') : Same lo B w w'' := fun b h1 h2 => (hb.block b (by omega)).trans (h b h1 h2)
theorem Same.alloc {lo B : Nat} {w w' : World} (h : Same lo B w w') (hB : B ≤ w'.heap.size) (o : Obj) : Same lo B w (w'.alloc o) := fun b h1 h2 => (Below.heap_alloc w' o b (by omega)).trans (h b h1 h2)
/-- what a to.. function of a struct answers: the same datum in new memory that may be written -/
def ToP {α : Type} (S : Bool → Shp α) (a : α) (w : World) (e : Ending) (w' : World) : Prop :=
  ∃ cs : List Value, e = .returned (.agg cs.toArray) ∧ (∀ m, (S m).rep w' w.heap.size w'.heap.size a cs) ∧ Below w.heap.size w w'
/-- .. of a slice -/
def ToSP {α : Type} (S : Bool → Shp α) (l : List α) (w : World) (e : Ending) (w' : World) : Prop :=
  ∃ v : Value, e = .returned v ∧ (∀ m, Sl m (S m) w' w.heap.size w'.heap.size l v) ∧ Below w.heap.size w w'

theorem Tryz.info_str : (Tryz.prog.info? 9).map (fun i => (i.zero, i.size, i.bytes)) = some (some (.string ⟨#[]⟩), 1, 16) := by kernel_rfl
theorem to_StringS (l : List ByteArray) (v : Value) (w : World) (lo B : Nat) (hB : B ≤ w.heap.size) (hN : (l.length + sumBy ByteArray.size l) ≤ 1048576) (hv : Sl false (strS false) w lo B l v) :
    Calls Tryz.prog 48 #[v] w (ToSP (fun m => (strS m)) l w) := by
  obtain ⟨A, cap, rfl, hlc, hcm⟩ := hv.form
  have hlen : l.length ≤ 1048576 := by omega
  obtain ⟨i0, hi, hz0, hz1, hz2⟩ := info_parts Tryz.info_str
  go_enter Tryz.func48, Tryz.ntmps48
  go_wp2_with (at_make; refine wpList_make_full _ rfl _ _ 40 rfl w.heap.size 9 i0 _ 1 Tryz.underlying40 hi hz0 hz1 _ _ _ _ l.length rfl rfl rfl rfl ?c1 ?c2 (Nat.le_refl _) ?c3)
  case c1 => rw [hz2]; omega
  case c2 => unfold maxLen; omega
  case c3 =>
    intro w1 hown hgrow
    obtain ⟨cur0, hr0, hs0, hb0, _, _, _⟩ := Row.of_own hown
    have hb1 : Below w.heap.size w w1 := (Below.refl _ _).grown hgrow (Nat.le_refl _) (fun k hk => by cases hk)
    obtain ⟨g, hg⟩ : ∃ g, g = w.heap.size := ⟨_, rfl⟩
    rw [← hg] at hr0 ⊢
    have hge : w.heap.size ≤ g := Nat.le_of_eq hg.symm
    have HG : Hid (g = w.heap.size) := hg
    clear hg hown hgrow hi hz0 hz1 hz2 hb0
    go_wp2_with fail
    go_loopw [4] (fun i wr => ∃ (k : Nat) (cur : Array Value), k ≤ l.length ∧ i = .int .i64 k ∧ Row wr g 9 cur ∧ cur.size = l.length ∧ (∀ m, Elems (strS m) wr (g + 1) wr.heap.size cur k l) ∧ Below w.heap.size w wr) (fun i _ => l.length - (intOf i).toNat)
    case atStart => exact ⟨0, cur0, by omega, rfl, hr0, by simpa using hs0, fun m => Elems.zero _ _ _ _ _ _, hb1⟩
    case round =>
      obtain ⟨k, cur, hk, rfl, hrow, hcs, hdone, hb⟩ := hrel
      have hgl := hrow.lt
      have hsz := hb.size
      by_cases hkl : k < l.length
      · obtain ⟨b, o, a, rfl, _, _, HL, ha, c0⟩ := str_get (hv.below hb hB) hkl
        have HC : Hid (cur.size = l.length) := hcs
        have hk2 : k < cur.size := by omega
        clear hcs
        obtain ⟨z0, hz0⟩ := hrow.cellAt (i := k) (by omega)
        have hf0 := hrow.frozen k
        go_wp2_with fail
        go_roundw
        case rel =>
          refine ⟨k + 1, _, by omega, by go_num, hrow.set_ _ _, by simpa using HC.out, fun m => ?_, ?_⟩
          · refine Elems.succ (k := k) (a := a) (cs := [.string a]) (fun i b hi hb => (hdone m i b hi hb)) (by rw [List.getElem?_eq_getElem hkl, HL.out]) (str_mk m _ _ _ ha) ?_ ?_
            · intro j hj
              have hj' : j < k := by simpa [strS] using hj
              exact set_ne (by omega) _
            · intro j u hu
              match j, hu with
              | 0, hu =>
                have hu' := Option.some.inj hu
                subst hu'
                simpa [strS] using set_same hk2 _
          · exact hb.setCell hge _
        case measure => simp [intOf]; omega
      · obtain rfl : k = l.length := by omega
        go_wp2_with fail
        go_ret
        exact ⟨_, rfl, fun m => Sl.of_row hrow hge hgl (Nat.le_refl _) (by unfold maxLen; omega) ((hdone m).keep (by omega) (Nat.le_refl _) (fun _ _ _ => rfl)), hb⟩

theorem to_Expr_of (d : Nat) (HExprS : ∀ (l : List Ex) (v : Value) (w : World) (lo B : Nat) (_ : B ≤ w.heap.size) (_ : (l.length + sumBy exN l) ≤ 1048576) (_ : Sl false (exS false d) w lo B l v), Calls Tryz.prog 95 #[v] w (ToSP (fun m => (exS m d)) l w)) (op : Int) (n : Int) (name : ByteArray) (kids : List Ex) (v3 : Value) (w : World) (lo B : Nat) (hB : B ≤ w.heap.size) (hN : name.size + (kids.length + sumBy exN kids) ≤ 1048576) (h0 : I64 op) (h1 : I64 n) (h2 : name.size ≤ maxLen) (h3 : Sl false (exS false d) w lo B kids v3) :
    Calls Tryz.prog 107 #[.agg #[.int .i64 op, .int .i64 n, .string name, v3]] w (ToP (fun m => (exS m (d + 1))) (Ex.mk op n name kids) w) := by
  have KExprS := Lib.hid HExprS
  clear HExprS
  go_enter Tryz.func107, Tryz.ntmps107
  have hb0 : Below w.heap.size w (((w.alloc (.cells #[.int .i64 op, .int .i64 n, .string name, v3] 142)).alloc (.cells #[.int .i64 0, .int .i64 0, .string ⟨#[]⟩, .slice none 0 0] 90)).alloc (.cells #[.int .i64 op, .int .i64 n, .string name, .slice none 0 0] 90)) := (((Below.refl _ _).alloc (Nat.le_refl _) _).alloc (by simp) _).alloc (by simp; omega) _
  have B0 : Row (((w.alloc (.cells #[.int .i64 op, .int .i64 n, .string name, v3] 142)).alloc (.cells #[.int .i64 0, .int .i64 0, .string ⟨#[]⟩, .slice none 0 0] 90)).alloc (.cells #[.int .i64 op, .int .i64 n, .string name, .slice none 0 0] 90)) (w.heap.size) 142 #[.int .i64 op, .int .i64 n, .string name, v3] := ((Row.new w _ _).alloc _).alloc _
  have S0 : Row (((w.alloc (.cells #[.int .i64 op, .int .i64 n, .string name, v3] 142)).alloc (.cells #[.int .i64 0, .int .i64 0, .string ⟨#[]⟩, .slice none 0 0] 90)).alloc (.cells #[.int .i64 op, .int .i64 n, .string name, .slice none 0 0] 90)) (w.heap.size + 1) 90 #[.int .i64 0, .int .i64 0, .string ⟨#[]⟩, .slice none 0 0] := by simpa using (Row.new (w.alloc (.cells #[.int .i64 op, .int .i64 n, .string name, v3] 142)) 90 #[.int .i64 0, .int .i64 0, .string ⟨#[]⟩, .slice none 0 0]).alloc (.cells #[.int .i64 op, .int .i64 n, .string name, .slice none 0 0] 90)
  have G0 : Row (((w.alloc (.cells #[.int .i64 op, .int .i64 n, .string name, v3] 142)).alloc (.cells #[.int .i64 0, .int .i64 0, .string ⟨#[]⟩, .slice none 0 0] 90)).alloc (.cells #[.int .i64 op, .int .i64 n, .string name, .slice none 0 0] 90)) (w.heap.size + 1 + 1) 90 #[.int .i64 op, .int .i64 n, .string name, .slice none 0 0] := by simpa using Row.new ((w.alloc (.cells #[.int .i64 op, .int .i64 n, .string name, v3] 142)).alloc (.cells #[.int .i64 0, .int .i64 0, .string ⟨#[]⟩, .slice none 0 0] 90)) 90 #[.int .i64 op, .int .i64 n, .string name, .slice none 0 0]
  have z0 : w.heap.size + 1 + 1 + 1 ≤ (((w.alloc (.cells #[.int .i64 op, .int .i64 n, .string name, v3] 142)).alloc (.cells #[.int .i64 0, .int .i64 0, .string ⟨#[]⟩, .slice none 0 0] 90)).alloc (.cells #[.int .i64 op, .int .i64 n, .string name, .slice none 0 0] 90)).heap.size := by simp
  go_wp2_with fail
  refine (KExprS.out kids v3 _ lo B (Nat.le_trans hB hb0.size) (by omega) (h3.below hb0 hB)).mono ?_
  rintro e w1 ⟨x3, rfl, hx3, e1⟩
  obtain ⟨A3, p3, rfl, _, _⟩ := (hx3 false).form
  have hb1 : Below w.heap.size w w1 := hb0.trans (e1.mono hb0.size)
  have B1 := B0.below e1 B0.lt
  have S1 := S0.below e1 S0.lt
  have G1 := G0.below e1 G0.lt
  have z1 : w.heap.size + 1 + 1 + 1 ≤ w1.heap.size := Nat.le_trans z0 e1.size
  have hy3 : ∀ m, Sl m (exS m d) w1 (w.heap.size + 1 + 1 + 1) w1.heap.size kids (.slice A3 kids.length p3) := fun m => (hx3 m).more z0 (Nat.le_refl _)
  have p1_0 : w1.cell? ⟨w.heap.size + 1 + 1, 0, none⟩ = some (.int .i64 op) := G1.cell 0
  have s1_0 : w1.cell? ⟨w.heap.size + 1, 0, none⟩ = some (.int .i64 0) := S1.cell 0
  have u1_0 : w1.frozen? ⟨w.heap.size + 1, 0, none⟩ = false := S1.frozen 0
  have p1_1 : w1.cell? ⟨w.heap.size + 1 + 1, 1, none⟩ = some (.int .i64 n) := G1.cell 1
  have s1_1 : w1.cell? ⟨w.heap.size + 1, 1, none⟩ = some (.int .i64 0) := S1.cell 1
  have u1_1 : w1.frozen? ⟨w.heap.size + 1, 1, none⟩ = false := S1.frozen 1
  have p1_2 : w1.cell? ⟨w.heap.size + 1 + 1, 2, none⟩ = some (.string name) := G1.cell 2
  have s1_2 : w1.cell? ⟨w.heap.size + 1, 2, none⟩ = some (.string ⟨#[]⟩) := S1.cell 2
  have u1_2 : w1.frozen? ⟨w.heap.size + 1, 2, none⟩ = false := S1.frozen 2
  have p1_3 : w1.cell? ⟨w.heap.size + 1 + 1, 3, none⟩ = some (.slice none 0 0) := G1.cell 3
  have s1_3 : w1.cell? ⟨w.heap.size + 1, 3, none⟩ = some (.slice none 0 0) := S1.cell 3
  have q1_3 : w1.frozen? ⟨w.heap.size + 1 + 1, 3, none⟩ = false := G1.frozen 3
  have u1_3 : w1.frozen? ⟨w.heap.size + 1, 3, none⟩ = false := S1.frozen 3
  go_wp2_with fail
  refine bodyPost_ret (v := .agg #[.int .i64 op, .int .i64 n, .string name, .slice A3 kids.length p3]) (by simp [results, Tryz.results107, go_sem, s1_0, s1_1, s1_2, s1_3]) rfl ⟨[.int .i64 op, .int .i64 n, .string name, .slice A3 kids.length p3], rfl, fun m => ?_, ?_⟩
  · exact ex_mk m d op n name kids _ h0 h1 h2 ((hy3 m).keep (by omega) (by simp [World.setCell]) (((((((Same.refl _ _ _).setCell (p := ⟨w.heap.size + 1 + 1, 3, none⟩) (.inl (by simp)) ((.slice A3 kids.length p3))).setCell (p := ⟨w.heap.size + 1, 0, none⟩) (.inl (by simp)) (.int .i64 op)).setCell (p := ⟨w.heap.size + 1, 1, none⟩) (.inl (by simp)) (.int .i64 n)).setCell (p := ⟨w.heap.size + 1, 2, none⟩) (.inl (by simp)) (.string name)).setCell (p := ⟨w.heap.size + 1, 3, none⟩) (.inl (by simp)) (.slice A3 kids.length p3))))
  · exact (((((hb1.setCell (p := ⟨w.heap.size + 1 + 1, 3, none⟩) (by simp; omega) ((.slice A3 kids.length p3))).setCell (p := ⟨w.heap.size + 1, 0, none⟩) (by simp) (.int .i64 op)).setCell (p := ⟨w.heap.size + 1, 1, none⟩) (by simp) (.int .i64 n)).setCell (p := ⟨w.heap.size + 1, 2, none⟩) (by simp) (.string name)).setCell (p := ⟨w.heap.size + 1, 3, none⟩) (by simp) (.slice A3 kids.length p3))

theorem Tryz.info_Expr : (Tryz.prog.info? 90).map (fun i => (i.zero, i.size, i.bytes)) = some (some (.agg #[.int .i64 0, .int .i64 0, .string ⟨#[]⟩, .slice none 0 0]), 4, 56) := by kernel_rfl
theorem to_ExprS_of (D : Nat) (HExpr : ∀ d, D = d + 1 → ∀ (op : Int) (n : Int) (name : ByteArray) (kids : List Ex) (v3 : Value) (w : World) (lo B : Nat) (_ : B ≤ w.heap.size) (_ : name.size + (kids.length + sumBy exN kids) ≤ 1048576) (_ : I64 op) (_ : I64 n) (_ : name.size ≤ maxLen) (_ : Sl false (exS false d) w lo B kids v3), Calls Tryz.prog 107 #[.agg #[.int .i64 op, .int .i64 n, .string name, v3]] w (ToP (fun m => (exS m (d + 1))) (Ex.mk op n name kids) w)) (l : List Ex) (v : Value) (w : World) (lo B : Nat) (hB : B ≤ w.heap.size) (hN : (l.length + sumBy exN l) ≤ 1048576) (hv : Sl false (exS false D) w lo B l v) :
    Calls Tryz.prog 95 #[v] w (ToSP (fun m => (exS m D)) l w) := by
  have KExpr := Lib.hid HExpr
  clear HExpr
  obtain ⟨A, cap, rfl, hlc, hcm⟩ := hv.form
  have hlen : l.length ≤ 1048576 := by omega
  obtain ⟨i0, hi, hz0, hz1, hz2⟩ := info_parts Tryz.info_Expr
  go_enter Tryz.func95, Tryz.ntmps95
  go_wp2_with (at_make; refine wpList_make_full _ rfl _ _ 74 rfl w.heap.size 90 i0 _ 4 Tryz.underlying74 hi hz0 hz1 _ _ _ _ l.length rfl rfl rfl rfl ?c1 ?c2 (Nat.le_refl _) ?c3)
  case c1 => rw [hz2]; omega
  case c2 => unfold maxLen; omega
  case c3 =>
    intro w1 hown hgrow
    obtain ⟨cur0, hr0, hs0, hb0, _, _, _⟩ := Row.of_own hown
    have hb1 : Below w.heap.size w w1 := (Below.refl _ _).grown hgrow (Nat.le_refl _) (fun k hk => by cases hk)
    obtain ⟨g, hg⟩ : ∃ g, g = w.heap.size := ⟨_, rfl⟩
    rw [← hg] at hr0 ⊢
    have hge : w.heap.size ≤ g := Nat.le_of_eq hg.symm
    have HG : Hid (g = w.heap.size) := hg
    clear hg hown hgrow hi hz0 hz1 hz2 hb0
    go_wp2_with fail
    go_loopw [4] (fun i wr => ∃ (k : Nat) (cur : Array Value), k ≤ l.length ∧ i = .int .i64 k ∧ Row wr g 90 cur ∧ cur.size = l.length * 4 ∧ (∀ m, Elems (exS m D) wr (g + 1) wr.heap.size cur k l) ∧ Below w.heap.size w wr) (fun i _ => l.length - (intOf i).toNat)
    case atStart => exact ⟨0, cur0, by omega, rfl, hr0, by simpa using hs0, fun m => Elems.zero _ _ _ _ _ _, hb1⟩
    case round =>
      obtain ⟨k, cur, hk, rfl, hrow, hcs, hdone, hb⟩ := hrel
      have hgl := hrow.lt
      have hsz := hb.size
      by_cases hkl : k < l.length
      · obtain ⟨d, rfl⟩ := exS_pos hv (by omega)
        obtain ⟨b, o, op, n, name, kids, v3, rfl, _, _, HL, g0, g1, g2, g3, c0, c1, c2, c3⟩ := ex_get d (hv.below hb hB) hkl
        have HC : Hid (cur.size = l.length * 4) := hcs
        have hk2 : k * 4 + 3 < cur.size := by omega
        clear hcs
        have hN1 : name.size + (kids.length + sumBy exN kids) ≤ 1048576 := by
          have h1 := sumBy_mem exN (List.getElem_mem hkl)
          rw [HL.out] at h1
          simp only [exN, exNs_eq] at h1
          omega
        go_wp2_with fail
        refine (KExpr.out d rfl op n name kids v3 _ lo B (by omega) hN1 g0 g1 g2 g3).mono ?_
        rintro e w2 ⟨cs, rfl, hx, hb2⟩
        obtain ⟨x3, rfl, t0, t1, t2, t3⟩ := ex_open d (hx false)
        obtain ⟨A3, p3, hxx3, _, _⟩ := t3.form
        change _ = Value.slice A3 kids.length p3 at hxx3
        subst hxx3
        have hr2 := hrow.below hb2 hgl
        have hsz2 := hb2.size
        obtain ⟨z0, hz0⟩ := hr2.cellAt (i := k * 4) (by omega)
        have hf0 := hr2.frozen (k * 4)
        obtain ⟨z1, hz1⟩ := hr2.cellAt (i := k * 4 + 1) (by omega)
        have hf1 := hr2.frozen (k * 4 + 1)
        obtain ⟨z2, hz2⟩ := hr2.cellAt (i := k * 4 + 2) (by omega)
        have hf2 := hr2.frozen (k * 4 + 2)
        obtain ⟨z3, hz3⟩ := hr2.cellAt (i := k * 4 + 3) (by omega)
        have hf3 := hr2.frozen (k * 4 + 3)
        clear t0 t1 t2 t3
        go_wp2_with fail
        go_roundw
        case rel =>
          refine ⟨k + 1, _, by omega, by go_num, ((((hr2.set_ (k * 4) (.int .i64 op)).set_ (k * 4 + 1) (.int .i64 n)).set_ (k * 4 + 2) (.string name)).set_ (k * 4 + 3) (.slice A3 kids.length p3)), by simpa using HC.out, fun m => ?_, ?_⟩
          · have hs1 : Same (g + 1) w2.heap.size w2 (((((w2).setCell ⟨g, k * 4, none⟩ (.int .i64 op)).setCell ⟨g, k * 4 + 1, none⟩ (.int .i64 n)).setCell ⟨g, k * 4 + 2, none⟩ (.string name)).setCell ⟨g, k * 4 + 3, none⟩ (.slice A3 kids.length p3)) := (((((Same.refl _ _ _).setCell (p := ⟨g, k * 4, none⟩) (.inl (by simp)) (.int .i64 op)).setCell (p := ⟨g, k * 4 + 1, none⟩) (.inl (by simp)) (.int .i64 n)).setCell (p := ⟨g, k * 4 + 2, none⟩) (.inl (by simp)) (.string name)).setCell (p := ⟨g, k * 4 + 3, none⟩) (.inl (by simp)) (.slice A3 kids.length p3))
            have hold : Elems (exS m (d + 1)) (((((w2).setCell ⟨g, k * 4, none⟩ (.int .i64 op)).setCell ⟨g, k * 4 + 1, none⟩ (.int .i64 n)).setCell ⟨g, k * 4 + 2, none⟩ (.string name)).setCell ⟨g, k * 4 + 3, none⟩ (.slice A3 kids.length p3)) (g + 1) w2.heap.size cur k l := (hdone m).keep (Nat.le_refl _) hsz2 (fun b h1 h2 => (hs1 b h1 (by omega)).trans (hb2.block b h2))
            have hnew : (exS m (d + 1)).rep (((((w2).setCell ⟨g, k * 4, none⟩ (.int .i64 op)).setCell ⟨g, k * 4 + 1, none⟩ (.int .i64 n)).setCell ⟨g, k * 4 + 2, none⟩ (.string name)).setCell ⟨g, k * 4 + 3, none⟩ (.slice A3 kids.length p3)) (g + 1) w2.heap.size ((Ex.mk op n name kids)) [.int .i64 op, .int .i64 n, .string name, .slice A3 kids.length p3] := (exS m (d + 1)).keep (hx m) (by omega) (Nat.le_refl _) (fun b h1 h2 => hs1 b (by omega) h2)
            have hsz3 : w2.heap.size ≤ (((((w2).setCell ⟨g, k * 4, none⟩ (.int .i64 op)).setCell ⟨g, k * 4 + 1, none⟩ (.int .i64 n)).setCell ⟨g, k * 4 + 2, none⟩ (.string name)).setCell ⟨g, k * 4 + 3, none⟩ (.slice A3 kids.length p3)).heap.size := by simp [World.setCell]
            refine Elems.succ (k := k) (a := (Ex.mk op n name kids)) (cs := [.int .i64 op, .int .i64 n, .string name, .slice A3 kids.length p3]) (hold.keep (Nat.le_refl _) hsz3 (fun _ _ _ => rfl)) (by rw [List.getElem?_eq_getElem hkl, HL.out]) ((exS m (d + 1)).more hnew (Nat.le_refl _) hsz3) ?_ ?_
            · intro j hj
              have hj' : j < k * 4 := by simpa [exS_size] using hj
              rw [set_ne (by omega), set_ne (by omega), set_ne (by omega), set_ne (by omega)]
            · intro j u hu
              match j, hu with
              | 0, hu =>
                have hu' := Option.some.inj hu
                subst hu'
                show _ = _
                rw [exS_size]
                refine (show (_ : Array Value)[k * 4]? = _ from ?_)
                rw [set_ne (by omega), set_ne (by omega), set_ne (by omega)]
                exact set_same (by first | omega | (simp only [Array.size_setIfInBounds]; omega)) _
              | 1, hu =>
                have hu' := Option.some.inj hu
                subst hu'
                show _ = _
                rw [exS_size]
                refine (show (_ : Array Value)[k * 4 + 1]? = _ from ?_)
                rw [set_ne (by omega), set_ne (by omega)]
                exact set_same (by first | omega | (simp only [Array.size_setIfInBounds]; omega)) _
              | 2, hu =>
                have hu' := Option.some.inj hu
                subst hu'
                show _ = _
                rw [exS_size]
                refine (show (_ : Array Value)[k * 4 + 2]? = _ from ?_)
                rw [set_ne (by omega)]
                exact set_same (by first | omega | (simp only [Array.size_setIfInBounds]; omega)) _
              | 3, hu =>
                have hu' := Option.some.inj hu
                subst hu'
                show _ = _
                rw [exS_size]
                refine (show (_ : Array Value)[k * 4 + 3]? = _ from ?_)
                exact set_same (by first | omega | (simp only [Array.size_setIfInBounds]; omega)) _
          · exact (((((hb.trans (hb2.mono hb.size)).setCell (p := ⟨g, k * 4, none⟩) hge (.int .i64 op)).setCell (p := ⟨g, k * 4 + 1, none⟩) hge (.int .i64 n)).setCell (p := ⟨g, k * 4 + 2, none⟩) hge (.string name)).setCell (p := ⟨g, k * 4 + 3, none⟩) hge (.slice A3 kids.length p3))
        case measure => simp [intOf]; omega
      · obtain rfl : k = l.length := by omega
        go_wp2_with fail
        go_ret
        exact ⟨_, rfl, fun m => Sl.of_row hrow hge hgl (Nat.le_refl _) (by unfold maxLen; omega) ((hdone m).keep (by omega) (Nat.le_refl _) (fun _ _ _ => rfl)), hb⟩

theorem to_ExprS : ∀ d : Nat, ∀ (l : List Ex) (v : Value) (w : World) (lo B : Nat) (_ : B ≤ w.heap.size) (_ : (l.length + sumBy exN l) ≤ 1048576) (_ : Sl false (exS false d) w lo B l v), Calls Tryz.prog 95 #[v] w (ToSP (fun m => (exS m d)) l w) := by
  intro d
  induction d with
  | zero => exact to_ExprS_of 0 (fun d h => by omega)
  | succ d ih =>
    refine to_ExprS_of (d + 1) (fun d' h => ?_)
    obtain rfl : d = d' := by omega
    exact to_Expr_of d ih
theorem to_Stmt_of (d : Nat) (HStmtS : ∀ (l : List St) (v : Value) (w : World) (lo B : Nat) (_ : B ≤ w.heap.size) (_ : (l.length + sumBy stN l) ≤ 1048576) (_ : Sl false (stS false d) w lo B l v), Calls Tryz.prog 49 #[v] w (ToSP (fun m => (stS m d)) l w)) (op : Int) (name : ByteArray) (args : List Ex) (v2 : Value) (body : List St) (v3 : Value) (els : List St) (v4 : Value) (w : World) (lo B : Nat) (hB : B ≤ w.heap.size) (hN : name.size + (args.length + sumBy exN args) + (body.length + sumBy stN body) + (els.length + sumBy stN els) ≤ 1048576) (h0 : I64 op) (h1 : name.size ≤ maxLen) (h2 : Sl false (exS false d) w lo B args v2) (h3 : Sl false (stS false d) w lo B body v3) (h4 : Sl false (stS false d) w lo B els v4) :
    Calls Tryz.prog 74 #[.agg #[.int .i64 op, .string name, v2, v3, v4]] w (ToP (fun m => (stS m (d + 1))) (St.mk op name args body els) w) := by
  have KStmtS := Lib.hid HStmtS
  clear HStmtS
  go_enter Tryz.func74, Tryz.ntmps74
  have hb0 : Below w.heap.size w (((w.alloc (.cells #[.int .i64 op, .string name, v2, v3, v4] 109)).alloc (.cells #[.int .i64 0, .string ⟨#[]⟩, .slice none 0 0, .slice none 0 0, .slice none 0 0] 76)).alloc (.cells #[.int .i64 op, .string name, .slice none 0 0, .slice none 0 0, .slice none 0 0] 76)) := (((Below.refl _ _).alloc (Nat.le_refl _) _).alloc (by simp) _).alloc (by simp; omega) _
  have B0 : Row (((w.alloc (.cells #[.int .i64 op, .string name, v2, v3, v4] 109)).alloc (.cells #[.int .i64 0, .string ⟨#[]⟩, .slice none 0 0, .slice none 0 0, .slice none 0 0] 76)).alloc (.cells #[.int .i64 op, .string name, .slice none 0 0, .slice none 0 0, .slice none 0 0] 76)) (w.heap.size) 109 #[.int .i64 op, .string name, v2, v3, v4] := ((Row.new w _ _).alloc _).alloc _
  have S0 : Row (((w.alloc (.cells #[.int .i64 op, .string name, v2, v3, v4] 109)).alloc (.cells #[.int .i64 0, .string ⟨#[]⟩, .slice none 0 0, .slice none 0 0, .slice none 0 0] 76)).alloc (.cells #[.int .i64 op, .string name, .slice none 0 0, .slice none 0 0, .slice none 0 0] 76)) (w.heap.size + 1) 76 #[.int .i64 0, .string ⟨#[]⟩, .slice none 0 0, .slice none 0 0, .slice none 0 0] := by simpa using (Row.new (w.alloc (.cells #[.int .i64 op, .string name, v2, v3, v4] 109)) 76 #[.int .i64 0, .string ⟨#[]⟩, .slice none 0 0, .slice none 0 0, .slice none 0 0]).alloc (.cells #[.int .i64 op, .string name, .slice none 0 0, .slice none 0 0, .slice none 0 0] 76)
  have G0 : Row (((w.alloc (.cells #[.int .i64 op, .string name, v2, v3, v4] 109)).alloc (.cells #[.int .i64 0, .string ⟨#[]⟩, .slice none 0 0, .slice none 0 0, .slice none 0 0] 76)).alloc (.cells #[.int .i64 op, .string name, .slice none 0 0, .slice none 0 0, .slice none 0 0] 76)) (w.heap.size + 1 + 1) 76 #[.int .i64 op, .string name, .slice none 0 0, .slice none 0 0, .slice none 0 0] := by simpa using Row.new ((w.alloc (.cells #[.int .i64 op, .string name, v2, v3, v4] 109)).alloc (.cells #[.int .i64 0, .string ⟨#[]⟩, .slice none 0 0, .slice none 0 0, .slice none 0 0] 76)) 76 #[.int .i64 op, .string name, .slice none 0 0, .slice none 0 0, .slice none 0 0]
  have z0 : w.heap.size + 1 + 1 + 1 ≤ (((w.alloc (.cells #[.int .i64 op, .string name, v2, v3, v4] 109)).alloc (.cells #[.int .i64 0, .string ⟨#[]⟩, .slice none 0 0, .slice none 0 0, .slice none 0 0] 76)).alloc (.cells #[.int .i64 op, .string name, .slice none 0 0, .slice none 0 0, .slice none 0 0] 76)).heap.size := by simp
  go_wp2_with fail
  refine (to_ExprS d args v2 _ lo B (Nat.le_trans hB hb0.size) (by omega) (h2.below hb0 hB)).mono ?_
  rintro e w1 ⟨x2, rfl, hx2, e1⟩
  obtain ⟨A2, p2, rfl, _, _⟩ := (hx2 false).form
  have hb1 : Below w.heap.size w w1 := hb0.trans (e1.mono hb0.size)
  have B1 := B0.below e1 B0.lt
  have S1 := S0.below e1 S0.lt
  have G1 := G0.below e1 G0.lt
  have z1 : w.heap.size + 1 + 1 + 1 ≤ w1.heap.size := Nat.le_trans z0 e1.size
  have hy2 : ∀ m, Sl m (exS m d) w1 (w.heap.size + 1 + 1 + 1) w1.heap.size args (.slice A2 args.length p2) := fun m => (hx2 m).more z0 (Nat.le_refl _)
  have y1_3 : w1.cell? ⟨w.heap.size, 3, none⟩ = some (v3) := B1.cell 3
  have y1_4 : w1.cell? ⟨w.heap.size, 4, none⟩ = some (v4) := B1.cell 4
  have p1_0 : w1.cell? ⟨w.heap.size + 1 + 1, 0, none⟩ = some (.int .i64 op) := G1.cell 0
  have s1_0 : w1.cell? ⟨w.heap.size + 1, 0, none⟩ = some (.int .i64 0) := S1.cell 0
  have u1_0 : w1.frozen? ⟨w.heap.size + 1, 0, none⟩ = false := S1.frozen 0
  have p1_1 : w1.cell? ⟨w.heap.size + 1 + 1, 1, none⟩ = some (.string name) := G1.cell 1
  have s1_1 : w1.cell? ⟨w.heap.size + 1, 1, none⟩ = some (.string ⟨#[]⟩) := S1.cell 1
  have u1_1 : w1.frozen? ⟨w.heap.size + 1, 1, none⟩ = false := S1.frozen 1
  have p1_2 : w1.cell? ⟨w.heap.size + 1 + 1, 2, none⟩ = some (.slice none 0 0) := G1.cell 2
  have s1_2 : w1.cell? ⟨w.heap.size + 1, 2, none⟩ = some (.slice none 0 0) := S1.cell 2
  have q1_2 : w1.frozen? ⟨w.heap.size + 1 + 1, 2, none⟩ = false := G1.frozen 2
  have u1_2 : w1.frozen? ⟨w.heap.size + 1, 2, none⟩ = false := S1.frozen 2
  have p1_3 : w1.cell? ⟨w.heap.size + 1 + 1, 3, none⟩ = some (.slice none 0 0) := G1.cell 3
  have s1_3 : w1.cell? ⟨w.heap.size + 1, 3, none⟩ = some (.slice none 0 0) := S1.cell 3
  have q1_3 : w1.frozen? ⟨w.heap.size + 1 + 1, 3, none⟩ = false := G1.frozen 3
  have u1_3 : w1.frozen? ⟨w.heap.size + 1, 3, none⟩ = false := S1.frozen 3
  have p1_4 : w1.cell? ⟨w.heap.size + 1 + 1, 4, none⟩ = some (.slice none 0 0) := G1.cell 4
  have s1_4 : w1.cell? ⟨w.heap.size + 1, 4, none⟩ = some (.slice none 0 0) := S1.cell 4
  have q1_4 : w1.frozen? ⟨w.heap.size + 1 + 1, 4, none⟩ = false := G1.frozen 4
  have u1_4 : w1.frozen? ⟨w.heap.size + 1, 4, none⟩ = false := S1.frozen 4
  have hc2 : Below w.heap.size w ((w1).setCell ⟨w.heap.size + 1 + 1, 2, none⟩ ((.slice A2 args.length p2))) := (hb1.setCell (p := ⟨w.heap.size + 1 + 1, 2, none⟩) (by simp; omega) ((.slice A2 args.length p2)))
  have B2' : Row ((w1).setCell ⟨w.heap.size + 1 + 1, 2, none⟩ ((.slice A2 args.length p2))) (w.heap.size) 109 #[.int .i64 op, .string name, v2, v3, v4] := (B1.far (p := ⟨w.heap.size + 1 + 1, 2, none⟩) (by simp; omega) ((.slice A2 args.length p2)))
  have S2' : Row ((w1).setCell ⟨w.heap.size + 1 + 1, 2, none⟩ ((.slice A2 args.length p2))) (w.heap.size + 1) 76 #[.int .i64 0, .string ⟨#[]⟩, .slice none 0 0, .slice none 0 0, .slice none 0 0] := (S1.far (p := ⟨w.heap.size + 1 + 1, 2, none⟩) (by simp) ((.slice A2 args.length p2)))
  have G2' : Row ((w1).setCell ⟨w.heap.size + 1 + 1, 2, none⟩ ((.slice A2 args.length p2))) (w.heap.size + 1 + 1) 76 #[.int .i64 op, .string name, (.slice A2 args.length p2), .slice none 0 0, .slice none 0 0] := (G1.set_ 2 ((.slice A2 args.length p2)))
  have m2' : Same (w.heap.size + 1 + 1 + 1) w1.heap.size w1 ((w1).setCell ⟨w.heap.size + 1 + 1, 2, none⟩ ((.slice A2 args.length p2))) := ((Same.refl _ _ _).setCell (p := ⟨w.heap.size + 1 + 1, 2, none⟩) (.inl (by simp)) ((.slice A2 args.length p2)))
  have z2' : w.heap.size + 1 + 1 + 1 ≤ ((w1).setCell ⟨w.heap.size + 1 + 1, 2, none⟩ ((.slice A2 args.length p2))).heap.size := by simp [World.setCell]; omega
  have zz2' : w1.heap.size ≤ ((w1).setCell ⟨w.heap.size + 1 + 1, 2, none⟩ ((.slice A2 args.length p2))).heap.size := by simp [World.setCell]
  go_wp2_with fail
  refine (KStmtS.out body v3 _ lo B (Nat.le_trans hB hc2.size) (by omega) (h3.below hc2 hB)).mono ?_
  rintro e w2 ⟨x3, rfl, hx3, e2⟩
  obtain ⟨A3, p3, rfl, _, _⟩ := (hx3 false).form
  have hb2 : Below w.heap.size w w2 := hc2.trans (e2.mono hc2.size)
  have B2 := B2'.below e2 B2'.lt
  have S2 := S2'.below e2 S2'.lt
  have G2 := G2'.below e2 G2'.lt
  have z2 : w.heap.size + 1 + 1 + 1 ≤ w2.heap.size := Nat.le_trans z2' e2.size
  have ws2 : w1.heap.size ≤ w2.heap.size := Nat.le_trans zz2' e2.size
  have hy3 : ∀ m, Sl m (stS m d) w2 (w.heap.size + 1 + 1 + 1) w2.heap.size body (.slice A3 body.length p3) := fun m => (hx3 m).more z2' (Nat.le_refl _)
  have m2 : Same (w.heap.size + 1 + 1 + 1) w1.heap.size w1 w2 := m2'.below e2 (by omega)
  have y2_4 : w2.cell? ⟨w.heap.size, 4, none⟩ = some (v4) := B2.cell 4
  have p2_0 : w2.cell? ⟨w.heap.size + 1 + 1, 0, none⟩ = some (.int .i64 op) := G2.cell 0
  have s2_0 : w2.cell? ⟨w.heap.size + 1, 0, none⟩ = some (.int .i64 0) := S2.cell 0
  have u2_0 : w2.frozen? ⟨w.heap.size + 1, 0, none⟩ = false := S2.frozen 0
  have p2_1 : w2.cell? ⟨w.heap.size + 1 + 1, 1, none⟩ = some (.string name) := G2.cell 1
  have s2_1 : w2.cell? ⟨w.heap.size + 1, 1, none⟩ = some (.string ⟨#[]⟩) := S2.cell 1
  have u2_1 : w2.frozen? ⟨w.heap.size + 1, 1, none⟩ = false := S2.frozen 1
  have p2_2 : w2.cell? ⟨w.heap.size + 1 + 1, 2, none⟩ = some ((.slice A2 args.length p2)) := G2.cell 2
  have s2_2 : w2.cell? ⟨w.heap.size + 1, 2, none⟩ = some (.slice none 0 0) := S2.cell 2
  have u2_2 : w2.frozen? ⟨w.heap.size + 1, 2, none⟩ = false := S2.frozen 2
  have p2_3 : w2.cell? ⟨w.heap.size + 1 + 1, 3, none⟩ = some (.slice none 0 0) := G2.cell 3
  have s2_3 : w2.cell? ⟨w.heap.size + 1, 3, none⟩ = some (.slice none 0 0) := S2.cell 3
  have q2_3 : w2.frozen? ⟨w.heap.size + 1 + 1, 3, none⟩ = false := G2.frozen 3
  have u2_3 : w2.frozen? ⟨w.heap.size + 1, 3, none⟩ = false := S2.frozen 3
  have p2_4 : w2.cell? ⟨w.heap.size + 1 + 1, 4, none⟩ = some (.slice none 0 0) := G2.cell 4
  have s2_4 : w2.cell? ⟨w.heap.size + 1, 4, none⟩ = some (.slice none 0 0) := S2.cell 4
  have q2_4 : w2.frozen? ⟨w.heap.size + 1 + 1, 4, none⟩ = false := G2.frozen 4
  have u2_4 : w2.frozen? ⟨w.heap.size + 1, 4, none⟩ = false := S2.frozen 4
  clear y1_3 y1_4 p1_0 p1_1 p1_2 p1_3 p1_4 s1_0 s1_1 s1_2 s1_3 s1_4 q1_2 q1_3 q1_4 u1_0 u1_1 u1_2 u1_3 u1_4
  have hc3 : Below w.heap.size w ((w2).setCell ⟨w.heap.size + 1 + 1, 3, none⟩ ((.slice A3 body.length p3))) := (hb2.setCell (p := ⟨w.heap.size + 1 + 1, 3, none⟩) (by simp; omega) ((.slice A3 body.length p3)))
  have B3' : Row ((w2).setCell ⟨w.heap.size + 1 + 1, 3, none⟩ ((.slice A3 body.length p3))) (w.heap.size) 109 #[.int .i64 op, .string name, v2, v3, v4] := (B2.far (p := ⟨w.heap.size + 1 + 1, 3, none⟩) (by simp; omega) ((.slice A3 body.length p3)))
  have S3' : Row ((w2).setCell ⟨w.heap.size + 1 + 1, 3, none⟩ ((.slice A3 body.length p3))) (w.heap.size + 1) 76 #[.int .i64 0, .string ⟨#[]⟩, .slice none 0 0, .slice none 0 0, .slice none 0 0] := (S2.far (p := ⟨w.heap.size + 1 + 1, 3, none⟩) (by simp) ((.slice A3 body.length p3)))
  have G3' : Row ((w2).setCell ⟨w.heap.size + 1 + 1, 3, none⟩ ((.slice A3 body.length p3))) (w.heap.size + 1 + 1) 76 #[.int .i64 op, .string name, (.slice A2 args.length p2), (.slice A3 body.length p3), .slice none 0 0] := (G2.set_ 3 ((.slice A3 body.length p3)))
  have m2' : Same (w.heap.size + 1 + 1 + 1) w1.heap.size w1 ((w2).setCell ⟨w.heap.size + 1 + 1, 3, none⟩ ((.slice A3 body.length p3))) := (m2.setCell (p := ⟨w.heap.size + 1 + 1, 3, none⟩) (.inl (by simp)) ((.slice A3 body.length p3)))
  have m3' : Same (w.heap.size + 1 + 1 + 1) w2.heap.size w2 ((w2).setCell ⟨w.heap.size + 1 + 1, 3, none⟩ ((.slice A3 body.length p3))) := ((Same.refl _ _ _).setCell (p := ⟨w.heap.size + 1 + 1, 3, none⟩) (.inl (by simp)) ((.slice A3 body.length p3)))
  have z3' : w.heap.size + 1 + 1 + 1 ≤ ((w2).setCell ⟨w.heap.size + 1 + 1, 3, none⟩ ((.slice A3 body.length p3))).heap.size := by simp [World.setCell]; omega
  have zz3' : w2.heap.size ≤ ((w2).setCell ⟨w.heap.size + 1 + 1, 3, none⟩ ((.slice A3 body.length p3))).heap.size := by simp [World.setCell]
  go_wp2_with fail
  refine (KStmtS.out els v4 _ lo B (Nat.le_trans hB hc3.size) (by omega) (h4.below hc3 hB)).mono ?_
  rintro e w3 ⟨x4, rfl, hx4, e3⟩
  obtain ⟨A4, p4, rfl, _, _⟩ := (hx4 false).form
  have hb3 : Below w.heap.size w w3 := hc3.trans (e3.mono hc3.size)
  have B3 := B3'.below e3 B3'.lt
  have S3 := S3'.below e3 S3'.lt
  have G3 := G3'.below e3 G3'.lt
  have z3 : w.heap.size + 1 + 1 + 1 ≤ w3.heap.size := Nat.le_trans z3' e3.size
  have ws3 : w2.heap.size ≤ w3.heap.size := Nat.le_trans zz3' e3.size
  have hy4 : ∀ m, Sl m (stS m d) w3 (w.heap.size + 1 + 1 + 1) w3.heap.size els (.slice A4 els.length p4) := fun m => (hx4 m).more z3' (Nat.le_refl _)
  have m2 : Same (w.heap.size + 1 + 1 + 1) w1.heap.size w1 w3 := m2'.below e3 (by omega)
  have m3 : Same (w.heap.size + 1 + 1 + 1) w2.heap.size w2 w3 := m3'.below e3 (by omega)
  have p3_0 : w3.cell? ⟨w.heap.size + 1 + 1, 0, none⟩ = some (.int .i64 op) := G3.cell 0
  have s3_0 : w3.cell? ⟨w.heap.size + 1, 0, none⟩ = some (.int .i64 0) := S3.cell 0
  have u3_0 : w3.frozen? ⟨w.heap.size + 1, 0, none⟩ = false := S3.frozen 0
  have p3_1 : w3.cell? ⟨w.heap.size + 1 + 1, 1, none⟩ = some (.string name) := G3.cell 1
  have s3_1 : w3.cell? ⟨w.heap.size + 1, 1, none⟩ = some (.string ⟨#[]⟩) := S3.cell 1
  have u3_1 : w3.frozen? ⟨w.heap.size + 1, 1, none⟩ = false := S3.frozen 1
  have p3_2 : w3.cell? ⟨w.heap.size + 1 + 1, 2, none⟩ = some ((.slice A2 args.length p2)) := G3.cell 2
  have s3_2 : w3.cell? ⟨w.heap.size + 1, 2, none⟩ = some (.slice none 0 0) := S3.cell 2
  have u3_2 : w3.frozen? ⟨w.heap.size + 1, 2, none⟩ = false := S3.frozen 2
  have p3_3 : w3.cell? ⟨w.heap.size + 1 + 1, 3, none⟩ = some ((.slice A3 body.length p3)) := G3.cell 3
  have s3_3 : w3.cell? ⟨w.heap.size + 1, 3, none⟩ = some (.slice none 0 0) := S3.cell 3
  have u3_3 : w3.frozen? ⟨w.heap.size + 1, 3, none⟩ = false := S3.frozen 3
  have p3_4 : w3.cell? ⟨w.heap.size + 1 + 1, 4, none⟩ = some (.slice none 0 0) := G3.cell 4
  have s3_4 : w3.cell? ⟨w.heap.size + 1, 4, none⟩ = some (.slice none 0 0) := S3.cell 4
  have q3_4 : w3.frozen? ⟨w.heap.size + 1 + 1, 4, none⟩ = false := G3.frozen 4
  have u3_4 : w3.frozen? ⟨w.heap.size + 1, 4, none⟩ = false := S3.frozen 4
  clear y2_4 p2_0 p2_1 p2_2 p2_3 p2_4 s2_0 s2_1 s2_2 s2_3 s2_4 q2_3 q2_4 u2_0 u2_1 u2_2 u2_3 u2_4
  go_wp2_with fail
  refine bodyPost_ret (v := .agg #[.int .i64 op, .string name, .slice A2 args.length p2, .slice A3 body.length p3, .slice A4 els.length p4]) (by simp [results, Tryz.results74, go_sem, s3_0, s3_1, s3_2, s3_3, s3_4]) rfl ⟨[.int .i64 op, .string name, .slice A2 args.length p2, .slice A3 body.length p3, .slice A4 els.length p4], rfl, fun m => ?_, ?_⟩
  · exact st_mk m d op name args _ body _ els _ h0 h1 ((hy2 m).keep (by omega) (by simp [World.setCell]; omega) (((((((m2.setCell (p := ⟨w.heap.size + 1 + 1, 4, none⟩) (.inl (by simp)) ((.slice A4 els.length p4))).setCell (p := ⟨w.heap.size + 1, 0, none⟩) (.inl (by simp)) (.int .i64 op)).setCell (p := ⟨w.heap.size + 1, 1, none⟩) (.inl (by simp)) (.string name)).setCell (p := ⟨w.heap.size + 1, 2, none⟩) (.inl (by simp)) (.slice A2 args.length p2)).setCell (p := ⟨w.heap.size + 1, 3, none⟩) (.inl (by simp)) (.slice A3 body.length p3)).setCell (p := ⟨w.heap.size + 1, 4, none⟩) (.inl (by simp)) (.slice A4 els.length p4)))) ((hy3 m).keep (by omega) (by simp [World.setCell]; omega) (((((((m3.setCell (p := ⟨w.heap.size + 1 + 1, 4, none⟩) (.inl (by simp)) ((.slice A4 els.length p4))).setCell (p := ⟨w.heap.size + 1, 0, none⟩) (.inl (by simp)) (.int .i64 op)).setCell (p := ⟨w.heap.size + 1, 1, none⟩) (.inl (by simp)) (.string name)).setCell (p := ⟨w.heap.size + 1, 2, none⟩) (.inl (by simp)) (.slice A2 args.length p2)).setCell (p := ⟨w.heap.size + 1, 3, none⟩) (.inl (by simp)) (.slice A3 body.length p3)).setCell (p := ⟨w.heap.size + 1, 4, none⟩) (.inl (by simp)) (.slice A4 els.length p4)))) ((hy4 m).keep (by omega) (by simp [World.setCell]) ((((((((Same.refl _ _ _).setCell (p := ⟨w.heap.size + 1 + 1, 4, none⟩) (.inl (by simp)) ((.slice A4 els.length p4))).setCell (p := ⟨w.heap.size + 1, 0, none⟩) (.inl (by simp)) (.int .i64 op)).setCell (p := ⟨w.heap.size + 1, 1, none⟩) (.inl (by simp)) (.string name)).setCell (p := ⟨w.heap.size + 1, 2, none⟩) (.inl (by simp)) (.slice A2 args.length p2)).setCell (p := ⟨w.heap.size + 1, 3, none⟩) (.inl (by simp)) (.slice A3 body.length p3)).setCell (p := ⟨w.heap.size + 1, 4, none⟩) (.inl (by simp)) (.slice A4 els.length p4))))
  · exact ((((((hb3.setCell (p := ⟨w.heap.size + 1 + 1, 4, none⟩) (by simp; omega) ((.slice A4 els.length p4))).setCell (p := ⟨w.heap.size + 1, 0, none⟩) (by simp) (.int .i64 op)).setCell (p := ⟨w.heap.size + 1, 1, none⟩) (by simp) (.string name)).setCell (p := ⟨w.heap.size + 1, 2, none⟩) (by simp) (.slice A2 args.length p2)).setCell (p := ⟨w.heap.size + 1, 3, none⟩) (by simp) (.slice A3 body.length p3)).setCell (p := ⟨w.heap.size + 1, 4, none⟩) (by simp) (.slice A4 els.length p4))

theorem Tryz.info_Stmt : (Tryz.prog.info? 76).map (fun i => (i.zero, i.size, i.bytes)) = some (some (.agg #[.int .i64 0, .string ⟨#[]⟩, .slice none 0 0, .slice none 0 0, .slice none 0 0]), 5, 96) := by kernel_rfl
theorem to_StmtS_of (D : Nat) (HStmt : ∀ d, D = d + 1 → ∀ (op : Int) (name : ByteArray) (args : List Ex) (v2 : Value) (body : List St) (v3 : Value) (els : List St) (v4 : Value) (w : World) (lo B : Nat) (_ : B ≤ w.heap.size) (_ : name.size + (args.length + sumBy exN args) + (body.length + sumBy stN body) + (els.length + sumBy stN els) ≤ 1048576) (_ : I64 op) (_ : name.size ≤ maxLen) (_ : Sl false (exS false d) w lo B args v2) (_ : Sl false (stS false d) w lo B body v3) (_ : Sl false (stS false d) w lo B els v4), Calls Tryz.prog 74 #[.agg #[.int .i64 op, .string name, v2, v3, v4]] w (ToP (fun m => (stS m (d + 1))) (St.mk op name args body els) w)) (l : List St) (v : Value) (w : World) (lo B : Nat) (hB : B ≤ w.heap.size) (hN : (l.length + sumBy stN l) ≤ 1048576) (hv : Sl false (stS false D) w lo B l v) :
    Calls Tryz.prog 49 #[v] w (ToSP (fun m => (stS m D)) l w) := by
  have KStmt := Lib.hid HStmt
  clear HStmt
  obtain ⟨A, cap, rfl, hlc, hcm⟩ := hv.form
  have hlen : l.length ≤ 1048576 := by omega
  obtain ⟨i0, hi, hz0, hz1, hz2⟩ := info_parts Tryz.info_Stmt
  go_enter Tryz.func49, Tryz.ntmps49
  go_wp2_with (at_make; refine wpList_make_full _ rfl _ _ 41 rfl w.heap.size 76 i0 _ 5 Tryz.underlying41 hi hz0 hz1 _ _ _ _ l.length rfl rfl rfl rfl ?c1 ?c2 (Nat.le_refl _) ?c3)
  case c1 => rw [hz2]; omega
  case c2 => unfold maxLen; omega
  case c3 =>
    intro w1 hown hgrow
    obtain ⟨cur0, hr0, hs0, hb0, _, _, _⟩ := Row.of_own hown
    have hb1 : Below w.heap.size w w1 := (Below.refl _ _).grown hgrow (Nat.le_refl _) (fun k hk => by cases hk)
    obtain ⟨g, hg⟩ : ∃ g, g = w.heap.size := ⟨_, rfl⟩
    rw [← hg] at hr0 ⊢
    have hge : w.heap.size ≤ g := Nat.le_of_eq hg.symm
    have HG : Hid (g = w.heap.size) := hg
    clear hg hown hgrow hi hz0 hz1 hz2 hb0
    go_wp2_with fail
    go_loopw [4] (fun i wr => ∃ (k : Nat) (cur : Array Value), k ≤ l.length ∧ i = .int .i64 k ∧ Row wr g 76 cur ∧ cur.size = l.length * 5 ∧ (∀ m, Elems (stS m D) wr (g + 1) wr.heap.size cur k l) ∧ Below w.heap.size w wr) (fun i _ => l.length - (intOf i).toNat)
    case atStart => exact ⟨0, cur0, by omega, rfl, hr0, by simpa using hs0, fun m => Elems.zero _ _ _ _ _ _, hb1⟩
    case round =>
      obtain ⟨k, cur, hk, rfl, hrow, hcs, hdone, hb⟩ := hrel
      have hgl := hrow.lt
      have hsz := hb.size
      by_cases hkl : k < l.length
      · obtain ⟨d, rfl⟩ := stS_pos hv (by omega)
        obtain ⟨b, o, op, name, args, v2, body, v3, els, v4, rfl, _, _, HL, g0, g1, g2, g3, g4, c0, c1, c2, c3, c4⟩ := st_get d (hv.below hb hB) hkl
        have HC : Hid (cur.size = l.length * 5) := hcs
        have hk2 : k * 5 + 4 < cur.size := by omega
        clear hcs
        have hN1 : name.size + (args.length + sumBy exN args) + (body.length + sumBy stN body) + (els.length + sumBy stN els) ≤ 1048576 := by
          have h1 := sumBy_mem stN (List.getElem_mem hkl)
          rw [HL.out] at h1
          simp only [stN, stNs_eq] at h1
          omega
        go_wp2_with fail
        refine (KStmt.out d rfl op name args v2 body v3 els v4 _ lo B (by omega) hN1 g0 g1 g2 g3 g4).mono ?_
        rintro e w2 ⟨cs, rfl, hx, hb2⟩
        obtain ⟨x2, x3, x4, rfl, t0, t1, t2, t3, t4⟩ := st_open d (hx false)
        obtain ⟨A2, p2, hxx2, _, _⟩ := t2.form
        change _ = Value.slice A2 args.length p2 at hxx2
        subst hxx2
        obtain ⟨A3, p3, hxx3, _, _⟩ := t3.form
        change _ = Value.slice A3 body.length p3 at hxx3
        subst hxx3
        obtain ⟨A4, p4, hxx4, _, _⟩ := t4.form
        change _ = Value.slice A4 els.length p4 at hxx4
        subst hxx4
        have hr2 := hrow.below hb2 hgl
        have hsz2 := hb2.size
        obtain ⟨z0, hz0⟩ := hr2.cellAt (i := k * 5) (by omega)
        have hf0 := hr2.frozen (k * 5)
        obtain ⟨z1, hz1⟩ := hr2.cellAt (i := k * 5 + 1) (by omega)
        have hf1 := hr2.frozen (k * 5 + 1)
        obtain ⟨z2, hz2⟩ := hr2.cellAt (i := k * 5 + 2) (by omega)
        have hf2 := hr2.frozen (k * 5 + 2)
        obtain ⟨z3, hz3⟩ := hr2.cellAt (i := k * 5 + 3) (by omega)
        have hf3 := hr2.frozen (k * 5 + 3)
        obtain ⟨z4, hz4⟩ := hr2.cellAt (i := k * 5 + 4) (by omega)
        have hf4 := hr2.frozen (k * 5 + 4)
        clear t0 t1 t2 t3 t4
        go_wp2_with fail
        go_roundw
        case rel =>
          refine ⟨k + 1, _, by omega, by go_num, (((((hr2.set_ (k * 5) (.int .i64 op)).set_ (k * 5 + 1) (.string name)).set_ (k * 5 + 2) (.slice A2 args.length p2)).set_ (k * 5 + 3) (.slice A3 body.length p3)).set_ (k * 5 + 4) (.slice A4 els.length p4)), by simpa using HC.out, fun m => ?_, ?_⟩
          · have hs1 : Same (g + 1) w2.heap.size w2 ((((((w2).setCell ⟨g, k * 5, none⟩ (.int .i64 op)).setCell ⟨g, k * 5 + 1, none⟩ (.string name)).setCell ⟨g, k * 5 + 2, none⟩ (.slice A2 args.length p2)).setCell ⟨g, k * 5 + 3, none⟩ (.slice A3 body.length p3)).setCell ⟨g, k * 5 + 4, none⟩ (.slice A4 els.length p4)) := ((((((Same.refl _ _ _).setCell (p := ⟨g, k * 5, none⟩) (.inl (by simp)) (.int .i64 op)).setCell (p := ⟨g, k * 5 + 1, none⟩) (.inl (by simp)) (.string name)).setCell (p := ⟨g, k * 5 + 2, none⟩) (.inl (by simp)) (.slice A2 args.length p2)).setCell (p := ⟨g, k * 5 + 3, none⟩) (.inl (by simp)) (.slice A3 body.length p3)).setCell (p := ⟨g, k * 5 + 4, none⟩) (.inl (by simp)) (.slice A4 els.length p4))
            have hold : Elems (stS m (d + 1)) ((((((w2).setCell ⟨g, k * 5, none⟩ (.int .i64 op)).setCell ⟨g, k * 5 + 1, none⟩ (.string name)).setCell ⟨g, k * 5 + 2, none⟩ (.slice A2 args.length p2)).setCell ⟨g, k * 5 + 3, none⟩ (.slice A3 body.length p3)).setCell ⟨g, k * 5 + 4, none⟩ (.slice A4 els.length p4)) (g + 1) w2.heap.size cur k l := (hdone m).keep (Nat.le_refl _) hsz2 (fun b h1 h2 => (hs1 b h1 (by omega)).trans (hb2.block b h2))
            have hnew : (stS m (d + 1)).rep ((((((w2).setCell ⟨g, k * 5, none⟩ (.int .i64 op)).setCell ⟨g, k * 5 + 1, none⟩ (.string name)).setCell ⟨g, k * 5 + 2, none⟩ (.slice A2 args.length p2)).setCell ⟨g, k * 5 + 3, none⟩ (.slice A3 body.length p3)).setCell ⟨g, k * 5 + 4, none⟩ (.slice A4 els.length p4)) (g + 1) w2.heap.size ((St.mk op name args body els)) [.int .i64 op, .string name, .slice A2 args.length p2, .slice A3 body.length p3, .slice A4 els.length p4] := (stS m (d + 1)).keep (hx m) (by omega) (Nat.le_refl _) (fun b h1 h2 => hs1 b (by omega) h2)
            have hsz3 : w2.heap.size ≤ ((((((w2).setCell ⟨g, k * 5, none⟩ (.int .i64 op)).setCell ⟨g, k * 5 + 1, none⟩ (.string name)).setCell ⟨g, k * 5 + 2, none⟩ (.slice A2 args.length p2)).setCell ⟨g, k * 5 + 3, none⟩ (.slice A3 body.length p3)).setCell ⟨g, k * 5 + 4, none⟩ (.slice A4 els.length p4)).heap.size := by simp [World.setCell]
            refine Elems.succ (k := k) (a := (St.mk op name args body els)) (cs := [.int .i64 op, .string name, .slice A2 args.length p2, .slice A3 body.length p3, .slice A4 els.length p4]) (hold.keep (Nat.le_refl _) hsz3 (fun _ _ _ => rfl)) (by rw [List.getElem?_eq_getElem hkl, HL.out]) ((stS m (d + 1)).more hnew (Nat.le_refl _) hsz3) ?_ ?_
            · intro j hj
              have hj' : j < k * 5 := by simpa [stS_size] using hj
              rw [set_ne (by omega), set_ne (by omega), set_ne (by omega), set_ne (by omega), set_ne (by omega)]
            · intro j u hu
              match j, hu with
              | 0, hu =>
                have hu' := Option.some.inj hu
                subst hu'
                show _ = _
                rw [stS_size]
                refine (show (_ : Array Value)[k * 5]? = _ from ?_)
                rw [set_ne (by omega), set_ne (by omega), set_ne (by omega), set_ne (by omega)]
                exact set_same (by first | omega | (simp only [Array.size_setIfInBounds]; omega)) _
              | 1, hu =>
                have hu' := Option.some.inj hu
                subst hu'
                show _ = _
                rw [stS_size]
                refine (show (_ : Array Value)[k * 5 + 1]? = _ from ?_)
                rw [set_ne (by omega), set_ne (by omega), set_ne (by omega)]
                exact set_same (by first | omega | (simp only [Array.size_setIfInBounds]; omega)) _
              | 2, hu =>
                have hu' := Option.some.inj hu
                subst hu'
                show _ = _
                rw [stS_size]
                refine (show (_ : Array Value)[k * 5 + 2]? = _ from ?_)
                rw [set_ne (by omega), set_ne (by omega)]
                exact set_same (by first | omega | (simp only [Array.size_setIfInBounds]; omega)) _
              | 3, hu =>
                have hu' := Option.some.inj hu
                subst hu'
                show _ = _
                rw [stS_size]
                refine (show (_ : Array Value)[k * 5 + 3]? = _ from ?_)
                rw [set_ne (by omega)]
                exact set_same (by first | omega | (simp only [Array.size_setIfInBounds]; omega)) _
              | 4, hu =>
                have hu' := Option.some.inj hu
                subst hu'
                show _ = _
                rw [stS_size]
                refine (show (_ : Array Value)[k * 5 + 4]? = _ from ?_)
                exact set_same (by first | omega | (simp only [Array.size_setIfInBounds]; omega)) _
          · exact ((((((hb.trans (hb2.mono hb.size)).setCell (p := ⟨g, k * 5, none⟩) hge (.int .i64 op)).setCell (p := ⟨g, k * 5 + 1, none⟩) hge (.string name)).setCell (p := ⟨g, k * 5 + 2, none⟩) hge (.slice A2 args.length p2)).setCell (p := ⟨g, k * 5 + 3, none⟩) hge (.slice A3 body.length p3)).setCell (p := ⟨g, k * 5 + 4, none⟩) hge (.slice A4 els.length p4))
        case measure => simp [intOf]; omega
      · obtain rfl : k = l.length := by omega
        go_wp2_with fail
        go_ret
        exact ⟨_, rfl, fun m => Sl.of_row hrow hge hgl (Nat.le_refl _) (by unfold maxLen; omega) ((hdone m).keep (by omega) (Nat.le_refl _) (fun _ _ _ => rfl)), hb⟩

theorem to_StmtS : ∀ d : Nat, ∀ (l : List St) (v : Value) (w : World) (lo B : Nat) (_ : B ≤ w.heap.size) (_ : (l.length + sumBy stN l) ≤ 1048576) (_ : Sl false (stS false d) w lo B l v), Calls Tryz.prog 49 #[v] w (ToSP (fun m => (stS m d)) l w) := by
  intro d
  induction d with
  | zero => exact to_StmtS_of 0 (fun d h => by omega)
  | succ d ih =>
    refine to_StmtS_of (d + 1) (fun d' h => ?_)
    obtain rfl : d = d' := by omega
    exact to_Stmt_of d ih
theorem to_Fn (d : Nat) (name : ByteArray) (params : List ByteArray) (v1 : Value) (body : List St) (v2 : Value) (w : World) (lo B : Nat) (hB : B ≤ w.heap.size) (hN : name.size + (params.length + sumBy ByteArray.size params) + (body.length + sumBy stN body) ≤ 1048576) (h0 : name.size ≤ maxLen) (h1 : Sl false (strS false) w lo B params v1) (h2 : Sl false (stS false d) w lo B body v2) :
    Calls Tryz.prog 28 #[.agg #[.string name, v1, v2]] w (ToP (fun m => (fnS m d)) (⟨name, params, body⟩ : FnD) w) := by
  go_enter Tryz.func28, Tryz.ntmps28
  have hb0 : Below w.heap.size w (((w.alloc (.cells #[.string name, v1, v2] 53)).alloc (.cells #[.string ⟨#[]⟩, .slice none 0 0, .slice none 0 0] 43)).alloc (.cells #[.string name, .slice none 0 0, .slice none 0 0] 43)) := (((Below.refl _ _).alloc (Nat.le_refl _) _).alloc (by simp) _).alloc (by simp; omega) _
  have B0 : Row (((w.alloc (.cells #[.string name, v1, v2] 53)).alloc (.cells #[.string ⟨#[]⟩, .slice none 0 0, .slice none 0 0] 43)).alloc (.cells #[.string name, .slice none 0 0, .slice none 0 0] 43)) (w.heap.size) 53 #[.string name, v1, v2] := ((Row.new w _ _).alloc _).alloc _
  have S0 : Row (((w.alloc (.cells #[.string name, v1, v2] 53)).alloc (.cells #[.string ⟨#[]⟩, .slice none 0 0, .slice none 0 0] 43)).alloc (.cells #[.string name, .slice none 0 0, .slice none 0 0] 43)) (w.heap.size + 1) 43 #[.string ⟨#[]⟩, .slice none 0 0, .slice none 0 0] := by simpa using (Row.new (w.alloc (.cells #[.string name, v1, v2] 53)) 43 #[.string ⟨#[]⟩, .slice none 0 0, .slice none 0 0]).alloc (.cells #[.string name, .slice none 0 0, .slice none 0 0] 43)
  have G0 : Row (((w.alloc (.cells #[.string name, v1, v2] 53)).alloc (.cells #[.string ⟨#[]⟩, .slice none 0 0, .slice none 0 0] 43)).alloc (.cells #[.string name, .slice none 0 0, .slice none 0 0] 43)) (w.heap.size + 1 + 1) 43 #[.string name, .slice none 0 0, .slice none 0 0] := by simpa using Row.new ((w.alloc (.cells #[.string name, v1, v2] 53)).alloc (.cells #[.string ⟨#[]⟩, .slice none 0 0, .slice none 0 0] 43)) 43 #[.string name, .slice none 0 0, .slice none 0 0]
  have z0 : w.heap.size + 1 + 1 + 1 ≤ (((w.alloc (.cells #[.string name, v1, v2] 53)).alloc (.cells #[.string ⟨#[]⟩, .slice none 0 0, .slice none 0 0] 43)).alloc (.cells #[.string name, .slice none 0 0, .slice none 0 0] 43)).heap.size := by simp
  go_wp2_with fail
  refine (to_StringS params v1 _ lo B (Nat.le_trans hB hb0.size) (by omega) (h1.below hb0 hB)).mono ?_
  rintro e w1 ⟨x1, rfl, hx1, e1⟩
  obtain ⟨A1, p1, rfl, _, _⟩ := (hx1 false).form
  have hb1 : Below w.heap.size w w1 := hb0.trans (e1.mono hb0.size)
  have B1 := B0.below e1 B0.lt
  have S1 := S0.below e1 S0.lt
  have G1 := G0.below e1 G0.lt
  have z1 : w.heap.size + 1 + 1 + 1 ≤ w1.heap.size := Nat.le_trans z0 e1.size
  have hy1 : ∀ m, Sl m (strS m) w1 (w.heap.size + 1 + 1 + 1) w1.heap.size params (.slice A1 params.length p1) := fun m => (hx1 m).more z0 (Nat.le_refl _)
  have y1_2 : w1.cell? ⟨w.heap.size, 2, none⟩ = some (v2) := B1.cell 2
  have p1_0 : w1.cell? ⟨w.heap.size + 1 + 1, 0, none⟩ = some (.string name) := G1.cell 0
  have s1_0 : w1.cell? ⟨w.heap.size + 1, 0, none⟩ = some (.string ⟨#[]⟩) := S1.cell 0
  have u1_0 : w1.frozen? ⟨w.heap.size + 1, 0, none⟩ = false := S1.frozen 0
  have p1_1 : w1.cell? ⟨w.heap.size + 1 + 1, 1, none⟩ = some (.slice none 0 0) := G1.cell 1
  have s1_1 : w1.cell? ⟨w.heap.size + 1, 1, none⟩ = some (.slice none 0 0) := S1.cell 1
  have q1_1 : w1.frozen? ⟨w.heap.size + 1 + 1, 1, none⟩ = false := G1.frozen 1
  have u1_1 : w1.frozen? ⟨w.heap.size + 1, 1, none⟩ = false := S1.frozen 1
  have p1_2 : w1.cell? ⟨w.heap.size + 1 + 1, 2, none⟩ = some (.slice none 0 0) := G1.cell 2
  have s1_2 : w1.cell? ⟨w.heap.size + 1, 2, none⟩ = some (.slice none 0 0) := S1.cell 2
  have q1_2 : w1.frozen? ⟨w.heap.size + 1 + 1, 2, none⟩ = false := G1.frozen 2
  have u1_2 : w1.frozen? ⟨w.heap.size + 1, 2, none⟩ = false := S1.frozen 2
  have hc2 : Below w.heap.size w ((w1).setCell ⟨w.heap.size + 1 + 1, 1, none⟩ ((.slice A1 params.length p1))) := (hb1.setCell (p := ⟨w.heap.size + 1 + 1, 1, none⟩) (by simp; omega) ((.slice A1 params.length p1)))
  have B2' : Row ((w1).setCell ⟨w.heap.size + 1 + 1, 1, none⟩ ((.slice A1 params.length p1))) (w.heap.size) 53 #[.string name, v1, v2] := (B1.far (p := ⟨w.heap.size + 1 + 1, 1, none⟩) (by simp; omega) ((.slice A1 params.length p1)))
  have S2' : Row ((w1).setCell ⟨w.heap.size + 1 + 1, 1, none⟩ ((.slice A1 params.length p1))) (w.heap.size + 1) 43 #[.string ⟨#[]⟩, .slice none 0 0, .slice none 0 0] := (S1.far (p := ⟨w.heap.size + 1 + 1, 1, none⟩) (by simp) ((.slice A1 params.length p1)))
  have G2' : Row ((w1).setCell ⟨w.heap.size + 1 + 1, 1, none⟩ ((.slice A1 params.length p1))) (w.heap.size + 1 + 1) 43 #[.string name, (.slice A1 params.length p1), .slice none 0 0] := (G1.set_ 1 ((.slice A1 params.length p1)))
  have m1' : Same (w.heap.size + 1 + 1 + 1) w1.heap.size w1 ((w1).setCell ⟨w.heap.size + 1 + 1, 1, none⟩ ((.slice A1 params.length p1))) := ((Same.refl _ _ _).setCell (p := ⟨w.heap.size + 1 + 1, 1, none⟩) (.inl (by simp)) ((.slice A1 params.length p1)))
  have z2' : w.heap.size + 1 + 1 + 1 ≤ ((w1).setCell ⟨w.heap.size + 1 + 1, 1, none⟩ ((.slice A1 params.length p1))).heap.size := by simp [World.setCell]; omega
  have zz2' : w1.heap.size ≤ ((w1).setCell ⟨w.heap.size + 1 + 1, 1, none⟩ ((.slice A1 params.length p1))).heap.size := by simp [World.setCell]
  go_wp2_with fail
  refine (to_StmtS d body v2 _ lo B (Nat.le_trans hB hc2.size) (by omega) (h2.below hc2 hB)).mono ?_
  rintro e w2 ⟨x2, rfl, hx2, e2⟩
  obtain ⟨A2, p2, rfl, _, _⟩ := (hx2 false).form
  have hb2 : Below w.heap.size w w2 := hc2.trans (e2.mono hc2.size)
  have B2 := B2'.below e2 B2'.lt
  have S2 := S2'.below e2 S2'.lt
  have G2 := G2'.below e2 G2'.lt
  have z2 : w.heap.size + 1 + 1 + 1 ≤ w2.heap.size := Nat.le_trans z2' e2.size
  have ws2 : w1.heap.size ≤ w2.heap.size := Nat.le_trans zz2' e2.size
  have hy2 : ∀ m, Sl m (stS m d) w2 (w.heap.size + 1 + 1 + 1) w2.heap.size body (.slice A2 body.length p2) := fun m => (hx2 m).more z2' (Nat.le_refl _)
  have m1 : Same (w.heap.size + 1 + 1 + 1) w1.heap.size w1 w2 := m1'.below e2 (by omega)
  have p2_0 : w2.cell? ⟨w.heap.size + 1 + 1, 0, none⟩ = some (.string name) := G2.cell 0
  have s2_0 : w2.cell? ⟨w.heap.size + 1, 0, none⟩ = some (.string ⟨#[]⟩) := S2.cell 0
  have u2_0 : w2.frozen? ⟨w.heap.size + 1, 0, none⟩ = false := S2.frozen 0
  have p2_1 : w2.cell? ⟨w.heap.size + 1 + 1, 1, none⟩ = some ((.slice A1 params.length p1)) := G2.cell 1
  have s2_1 : w2.cell? ⟨w.heap.size + 1, 1, none⟩ = some (.slice none 0 0) := S2.cell 1
  have u2_1 : w2.frozen? ⟨w.heap.size + 1, 1, none⟩ = false := S2.frozen 1
  have p2_2 : w2.cell? ⟨w.heap.size + 1 + 1, 2, none⟩ = some (.slice none 0 0) := G2.cell 2
  have s2_2 : w2.cell? ⟨w.heap.size + 1, 2, none⟩ = some (.slice none 0 0) := S2.cell 2
  have q2_2 : w2.frozen? ⟨w.heap.size + 1 + 1, 2, none⟩ = false := G2.frozen 2
  have u2_2 : w2.frozen? ⟨w.heap.size + 1, 2, none⟩ = false := S2.frozen 2
  clear y1_2 p1_0 p1_1 p1_2 s1_0 s1_1 s1_2 q1_1 q1_2 u1_0 u1_1 u1_2
  go_wp2_with fail
  refine bodyPost_ret (v := .agg #[.string name, .slice A1 params.length p1, .slice A2 body.length p2]) (by simp [results, Tryz.results28, go_sem, s2_0, s2_1, s2_2]) rfl ⟨[.string name, .slice A1 params.length p1, .slice A2 body.length p2], rfl, fun m => ?_, ?_⟩
  · exact fn_mk m d name params _ body _ h0 ((hy1 m).keep (by omega) (by simp [World.setCell]; omega) (((((m1.setCell (p := ⟨w.heap.size + 1 + 1, 2, none⟩) (.inl (by simp)) ((.slice A2 body.length p2))).setCell (p := ⟨w.heap.size + 1, 0, none⟩) (.inl (by simp)) (.string name)).setCell (p := ⟨w.heap.size + 1, 1, none⟩) (.inl (by simp)) (.slice A1 params.length p1)).setCell (p := ⟨w.heap.size + 1, 2, none⟩) (.inl (by simp)) (.slice A2 body.length p2)))) ((hy2 m).keep (by omega) (by simp [World.setCell]) ((((((Same.refl _ _ _).setCell (p := ⟨w.heap.size + 1 + 1, 2, none⟩) (.inl (by simp)) ((.slice A2 body.length p2))).setCell (p := ⟨w.heap.size + 1, 0, none⟩) (.inl (by simp)) (.string name)).setCell (p := ⟨w.heap.size + 1, 1, none⟩) (.inl (by simp)) (.slice A1 params.length p1)).setCell (p := ⟨w.heap.size + 1, 2, none⟩) (.inl (by simp)) (.slice A2 body.length p2))))
  · exact ((((hb2.setCell (p := ⟨w.heap.size + 1 + 1, 2, none⟩) (by simp; omega) ((.slice A2 body.length p2))).setCell (p := ⟨w.heap.size + 1, 0, none⟩) (by simp) (.string name)).setCell (p := ⟨w.heap.size + 1, 1, none⟩) (by simp) (.slice A1 params.length p1)).setCell (p := ⟨w.heap.size + 1, 2, none⟩) (by simp) (.slice A2 body.length p2))

theorem Tryz.info_Fn : (Tryz.prog.info? 43).map (fun i => (i.zero, i.size, i.bytes)) = some (some (.agg #[.string ⟨#[]⟩, .slice none 0 0, .slice none 0 0]), 3, 64) := by kernel_rfl
theorem to_FnS (d : Nat) (l : List FnD) (v : Value) (w : World) (lo B : Nat) (hB : B ≤ w.heap.size) (hN : (l.length + sumBy fnN l) ≤ 1048576) (hv : Sl false (fnS false d) w lo B l v) :
    Calls Tryz.prog 13 #[v] w (ToSP (fun m => (fnS m d)) l w) := by
  obtain ⟨A, cap, rfl, hlc, hcm⟩ := hv.form
  have hlen : l.length ≤ 1048576 := by omega
  obtain ⟨i0, hi, hz0, hz1, hz2⟩ := info_parts Tryz.info_Fn
  go_enter Tryz.func13, Tryz.ntmps13
  go_wp2_with (at_make; refine wpList_make_full _ rfl _ _ 28 rfl w.heap.size 43 i0 _ 3 Tryz.underlying28 hi hz0 hz1 _ _ _ _ l.length rfl rfl rfl rfl ?c1 ?c2 (Nat.le_refl _) ?c3)
  case c1 => rw [hz2]; omega
  case c2 => unfold maxLen; omega
  case c3 =>
    intro w1 hown hgrow
    obtain ⟨cur0, hr0, hs0, hb0, _, _, _⟩ := Row.of_own hown
    have hb1 : Below w.heap.size w w1 := (Below.refl _ _).grown hgrow (Nat.le_refl _) (fun k hk => by cases hk)
    obtain ⟨g, hg⟩ : ∃ g, g = w.heap.size := ⟨_, rfl⟩
    rw [← hg] at hr0 ⊢
    have hge : w.heap.size ≤ g := Nat.le_of_eq hg.symm
    have HG : Hid (g = w.heap.size) := hg
    clear hg hown hgrow hi hz0 hz1 hz2 hb0
    go_wp2_with fail
    go_loopw [4] (fun i wr => ∃ (k : Nat) (cur : Array Value), k ≤ l.length ∧ i = .int .i64 k ∧ Row wr g 43 cur ∧ cur.size = l.length * 3 ∧ (∀ m, Elems (fnS m d) wr (g + 1) wr.heap.size cur k l) ∧ Below w.heap.size w wr) (fun i _ => l.length - (intOf i).toNat)
    case atStart => exact ⟨0, cur0, by omega, rfl, hr0, by simpa using hs0, fun m => Elems.zero _ _ _ _ _ _, hb1⟩
    case round =>
      obtain ⟨k, cur, hk, rfl, hrow, hcs, hdone, hb⟩ := hrel
      have hgl := hrow.lt
      have hsz := hb.size
      by_cases hkl : k < l.length
      · obtain ⟨b, o, name, params, v1, body, v2, rfl, _, _, HL, g0, g1, g2, c0, c1, c2⟩ := fn_get d (hv.below hb hB) hkl
        have HC : Hid (cur.size = l.length * 3) := hcs
        have hk2 : k * 3 + 2 < cur.size := by omega
        clear hcs
        have hN1 : name.size + (params.length + sumBy ByteArray.size params) + (body.length + sumBy stN body) ≤ 1048576 := by
          have h1 := sumBy_mem fnN (List.getElem_mem hkl)
          rw [HL.out] at h1
          simp only [fnN] at h1
          omega
        go_wp2_with fail
        refine (to_Fn d name params v1 body v2 _ lo B (by omega) hN1 g0 g1 g2).mono ?_
        rintro e w2 ⟨cs, rfl, hx, hb2⟩
        obtain ⟨x1, x2, rfl, t0, t1, t2⟩ := fn_open d (hx false)
        obtain ⟨A1, p1, hxx1, _, _⟩ := t1.form
        change _ = Value.slice A1 params.length p1 at hxx1
        subst hxx1
        obtain ⟨A2, p2, hxx2, _, _⟩ := t2.form
        change _ = Value.slice A2 body.length p2 at hxx2
        subst hxx2
        have hr2 := hrow.below hb2 hgl
        have hsz2 := hb2.size
        obtain ⟨z0, hz0⟩ := hr2.cellAt (i := k * 3) (by omega)
        have hf0 := hr2.frozen (k * 3)
        obtain ⟨z1, hz1⟩ := hr2.cellAt (i := k * 3 + 1) (by omega)
        have hf1 := hr2.frozen (k * 3 + 1)
        obtain ⟨z2, hz2⟩ := hr2.cellAt (i := k * 3 + 2) (by omega)
        have hf2 := hr2.frozen (k * 3 + 2)
        clear t0 t1 t2
        go_wp2_with fail
        go_roundw
        case rel =>
          refine ⟨k + 1, _, by omega, by go_num, (((hr2.set_ (k * 3) (.string name)).set_ (k * 3 + 1) (.slice A1 params.length p1)).set_ (k * 3 + 2) (.slice A2 body.length p2)), by simpa using HC.out, fun m => ?_, ?_⟩
          · have hs1 : Same (g + 1) w2.heap.size w2 ((((w2).setCell ⟨g, k * 3, none⟩ (.string name)).setCell ⟨g, k * 3 + 1, none⟩ (.slice A1 params.length p1)).setCell ⟨g, k * 3 + 2, none⟩ (.slice A2 body.length p2)) := ((((Same.refl _ _ _).setCell (p := ⟨g, k * 3, none⟩) (.inl (by simp)) (.string name)).setCell (p := ⟨g, k * 3 + 1, none⟩) (.inl (by simp)) (.slice A1 params.length p1)).setCell (p := ⟨g, k * 3 + 2, none⟩) (.inl (by simp)) (.slice A2 body.length p2))
            have hold : Elems (fnS m d) ((((w2).setCell ⟨g, k * 3, none⟩ (.string name)).setCell ⟨g, k * 3 + 1, none⟩ (.slice A1 params.length p1)).setCell ⟨g, k * 3 + 2, none⟩ (.slice A2 body.length p2)) (g + 1) w2.heap.size cur k l := (hdone m).keep (Nat.le_refl _) hsz2 (fun b h1 h2 => (hs1 b h1 (by omega)).trans (hb2.block b h2))
            have hnew : (fnS m d).rep ((((w2).setCell ⟨g, k * 3, none⟩ (.string name)).setCell ⟨g, k * 3 + 1, none⟩ (.slice A1 params.length p1)).setCell ⟨g, k * 3 + 2, none⟩ (.slice A2 body.length p2)) (g + 1) w2.heap.size ((⟨name, params, body⟩ : FnD)) [.string name, .slice A1 params.length p1, .slice A2 body.length p2] := (fnS m d).keep (hx m) (by omega) (Nat.le_refl _) (fun b h1 h2 => hs1 b (by omega) h2)
            have hsz3 : w2.heap.size ≤ ((((w2).setCell ⟨g, k * 3, none⟩ (.string name)).setCell ⟨g, k * 3 + 1, none⟩ (.slice A1 params.length p1)).setCell ⟨g, k * 3 + 2, none⟩ (.slice A2 body.length p2)).heap.size := by simp [World.setCell]
            refine Elems.succ (k := k) (a := (⟨name, params, body⟩ : FnD)) (cs := [.string name, .slice A1 params.length p1, .slice A2 body.length p2]) (hold.keep (Nat.le_refl _) hsz3 (fun _ _ _ => rfl)) (by rw [List.getElem?_eq_getElem hkl, HL.out]) ((fnS m d).more hnew (Nat.le_refl _) hsz3) ?_ ?_
            · intro j hj
              have hj' : j < k * 3 := by simpa [fnS_size] using hj
              rw [set_ne (by omega), set_ne (by omega), set_ne (by omega)]
            · intro j u hu
              match j, hu with
              | 0, hu =>
                have hu' := Option.some.inj hu
                subst hu'
                show _ = _
                rw [fnS_size]
                refine (show (_ : Array Value)[k * 3]? = _ from ?_)
                rw [set_ne (by omega), set_ne (by omega)]
                exact set_same (by first | omega | (simp only [Array.size_setIfInBounds]; omega)) _
              | 1, hu =>
                have hu' := Option.some.inj hu
                subst hu'
                show _ = _
                rw [fnS_size]
                refine (show (_ : Array Value)[k * 3 + 1]? = _ from ?_)
                rw [set_ne (by omega)]
                exact set_same (by first | omega | (simp only [Array.size_setIfInBounds]; omega)) _
              | 2, hu =>
                have hu' := Option.some.inj hu
                subst hu'
                show _ = _
                rw [fnS_size]
                refine (show (_ : Array Value)[k * 3 + 2]? = _ from ?_)
                exact set_same (by first | omega | (simp only [Array.size_setIfInBounds]; omega)) _
          · exact ((((hb.trans (hb2.mono hb.size)).setCell (p := ⟨g, k * 3, none⟩) hge (.string name)).setCell (p := ⟨g, k * 3 + 1, none⟩) hge (.slice A1 params.length p1)).setCell (p := ⟨g, k * 3 + 2, none⟩) hge (.slice A2 body.length p2))
        case measure => simp [intOf]; omega
      · obtain rfl : k = l.length := by omega
        go_wp2_with fail
        go_ret
        exact ⟨_, rfl, fun m => Sl.of_row hrow hge hgl (Nat.le_refl _) (by unfold maxLen; omega) ((hdone m).keep (by omega) (Nat.le_refl _) (fun _ _ _ => rfl)), hb⟩

theorem to_Program (d : Nat) (fns : List FnD) (v0 : Value) (w : World) (lo B : Nat) (hB : B ≤ w.heap.size) (hN : (fns.length + sumBy fnN fns) ≤ 1048576) (h0 : Sl false (fnS false d) w lo B fns v0) :
    Calls Tryz.prog 6 #[.agg #[v0]] w (ToP (fun m => (progS m d)) (⟨fns⟩ : ProgD) w) := by
  go_enter Tryz.func6, Tryz.ntmps6
  have hb0 : Below w.heap.size w (((w.alloc (.cells #[v0] 24)).alloc (.cells #[.slice none 0 0] 30)).alloc (.cells #[.slice none 0 0] 30)) := (((Below.refl _ _).alloc (Nat.le_refl _) _).alloc (by simp) _).alloc (by simp; omega) _
  have B0 : Row (((w.alloc (.cells #[v0] 24)).alloc (.cells #[.slice none 0 0] 30)).alloc (.cells #[.slice none 0 0] 30)) (w.heap.size) 24 #[v0] := ((Row.new w _ _).alloc _).alloc _
  have S0 : Row (((w.alloc (.cells #[v0] 24)).alloc (.cells #[.slice none 0 0] 30)).alloc (.cells #[.slice none 0 0] 30)) (w.heap.size + 1) 30 #[.slice none 0 0] := by simpa using (Row.new (w.alloc (.cells #[v0] 24)) 30 #[.slice none 0 0]).alloc (.cells #[.slice none 0 0] 30)
  have G0 : Row (((w.alloc (.cells #[v0] 24)).alloc (.cells #[.slice none 0 0] 30)).alloc (.cells #[.slice none 0 0] 30)) (w.heap.size + 1 + 1) 30 #[.slice none 0 0] := by simpa using Row.new ((w.alloc (.cells #[v0] 24)).alloc (.cells #[.slice none 0 0] 30)) 30 #[.slice none 0 0]
  have z0 : w.heap.size + 1 + 1 + 1 ≤ (((w.alloc (.cells #[v0] 24)).alloc (.cells #[.slice none 0 0] 30)).alloc (.cells #[.slice none 0 0] 30)).heap.size := by simp
  go_wp2_with fail
  refine (to_FnS d fns v0 _ lo B (Nat.le_trans hB hb0.size) (by omega) (h0.below hb0 hB)).mono ?_
  rintro e w1 ⟨x0, rfl, hx0, e1⟩
  obtain ⟨A0, p0, rfl, _, _⟩ := (hx0 false).form
  have hb1 : Below w.heap.size w w1 := hb0.trans (e1.mono hb0.size)
  have B1 := B0.below e1 B0.lt
  have S1 := S0.below e1 S0.lt
  have G1 := G0.below e1 G0.lt
  have z1 : w.heap.size + 1 + 1 + 1 ≤ w1.heap.size := Nat.le_trans z0 e1.size
  have hy0 : ∀ m, Sl m (fnS m d) w1 (w.heap.size + 1 + 1 + 1) w1.heap.size fns (.slice A0 fns.length p0) := fun m => (hx0 m).more z0 (Nat.le_refl _)
  have p1_0 : w1.cell? ⟨w.heap.size + 1 + 1, 0, none⟩ = some (.slice none 0 0) := G1.cell 0
  have s1_0 : w1.cell? ⟨w.heap.size + 1, 0, none⟩ = some (.slice none 0 0) := S1.cell 0
  have q1_0 : w1.frozen? ⟨w.heap.size + 1 + 1, 0, none⟩ = false := G1.frozen 0
  have u1_0 : w1.frozen? ⟨w.heap.size + 1, 0, none⟩ = false := S1.frozen 0
  go_wp2_with fail
  refine bodyPost_ret (v := .agg #[.slice A0 fns.length p0]) (by simp [results, Tryz.results6, go_sem, s1_0]) rfl ⟨[.slice A0 fns.length p0], rfl, fun m => ?_, ?_⟩
  · exact prog_mk m d fns _ ((hy0 m).keep (by omega) (by simp [World.setCell]) ((((Same.refl _ _ _).setCell (p := ⟨w.heap.size + 1 + 1, 0, none⟩) (.inl (by simp)) ((.slice A0 fns.length p0))).setCell (p := ⟨w.heap.size + 1, 0, none⟩) (.inl (by simp)) (.slice A0 fns.length p0))))
  · exact ((hb1.setCell (p := ⟨w.heap.size + 1 + 1, 0, none⟩) (by simp; omega) ((.slice A0 fns.length p0))).setCell (p := ⟨w.heap.size + 1, 0, none⟩) (by simp) (.slice A0 fns.length p0))

end Go.Proofs.YtbikgakoeheahaaGreatDoor

