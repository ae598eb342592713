/-
  The to.. functions: they answer the same datum in new memory. Conditions: the arguments read as data, of size at most 1048576.
-/
import Derived.Test.YtnamciblapddbaaDoorSz
namespace Go.Proofs.YtnamciblapddbaaDoor
open Go.RowKit Go.ChangeShapes Go.WideShapes Go.Deep

/-- between lo and B the world w' is as w was -/
def Same (lo B : Nat) (w w' : World) : Prop := ∀ b : Nat, lo ≤ b → b < B → w'.heap[b]? = w.heap[b]?
theorem Same.refl (lo B : Nat) (w : World) : Same lo B w w := fun _ _ _ => rfl
theorem Same.setCell {lo B : Nat} {w w' : World} (h : Same lo B w w') {p : Addr} (hp : p.block < lo ∨ B ≤ p.block) (u : Value) : Same lo B w (w'.setCell p u) := fun b h1 h2 => (Below.heap_setCell w' p u b (by omega)).trans (h b h1 h2)
theorem Same.below {lo B B' : Nat} {w w' w'' : World} (h : Same lo B w w') (hb : Below B' w' w'') (hB : B ≤ B') : Same lo B w w'' := fun b h1 h2 => (hb.block b (by omega)).trans (h b h1 h2)
theorem Same.alloc {lo B : Nat} {w w' : World} (h : Same lo B w w') (hB : B ≤ w'.heap.size) (o : Obj) : Same lo B w (w'.alloc o) := fun b h1 h2 => (Below.heap_alloc w' o b (by omega)).trans (h b h1 h2)
/-- what a to.. function of a struct answers: the same datum in new memory that may be written -/
def ToP {α : Type} (S : Bool → Shp α) (a : α) (w : World) (e : Ending) (w' : World) : Prop :=
  ∃ cs : List Value, e = .returned (.agg cs.toArray) ∧ (∀ m, (S m).rep w' w.heap.size w'.heap.size a cs) ∧ Below w.heap.size w w'
/-- .. of a slice -/
def ToSP {α : Type} (S : Bool → Shp α) (l : List α) (w : World) (e : Ending) (w' : World) : Prop :=
  ∃ v : Value, e = .returned v ∧ (∀ m, Sl m (S m) w' w.heap.size w'.heap.size l v) ∧ Below w.heap.size w w'

theorem to_Expr_of (d : Nat) (HExprS : ∀ (l : List Ex) (v : Value) (w : World) (lo B : Nat) (_ : B ≤ w.heap.size) (_ : (l.length + sumBy exN l) ≤ 1048576) (_ : Sl false (exS false d) w lo B l v), Calls Tryd.prog 40 #[v] w (ToSP (fun m => (exS m d)) l w)) (op : Int) (n : Int) (name : ByteArray) (kids : List Ex) (v3 : Value) (w : World) (lo B : Nat) (hB : B ≤ w.heap.size) (hN : name.size + (kids.length + sumBy exN kids) ≤ 1048576) (h0 : I64 op) (h1 : I64 n) (h2 : name.size ≤ maxLen) (h3 : Sl false (exS false d) w lo B kids v3) :
    Calls Tryd.prog 14 #[.agg #[.int .i64 op, .int .i64 n, .string name, v3]] w (ToP (fun m => (exS m (d + 1))) (Ex.mk op n name kids) w) := by
  have KExprS := Lib.hid HExprS
  clear HExprS
  go_enter Tryd.func14, Tryd.ntmps14
  have hb0 : Below w.heap.size w (((w.alloc (.cells #[.int .i64 op, .int .i64 n, .string name, v3] 24)).alloc (.cells #[.int .i64 0, .int .i64 0, .string ⟨#[]⟩, .slice none 0 0] 30)).alloc (.cells #[.int .i64 op, .int .i64 n, .string name, .slice none 0 0] 30)) := (((Below.refl _ _).alloc (Nat.le_refl _) _).alloc (by simp) _).alloc (by simp; omega) _
  have B0 : Row (((w.alloc (.cells #[.int .i64 op, .int .i64 n, .string name, v3] 24)).alloc (.cells #[.int .i64 0, .int .i64 0, .string ⟨#[]⟩, .slice none 0 0] 30)).alloc (.cells #[.int .i64 op, .int .i64 n, .string name, .slice none 0 0] 30)) (w.heap.size) 24 #[.int .i64 op, .int .i64 n, .string name, v3] := ((Row.new w _ _).alloc _).alloc _
  have S0 : Row (((w.alloc (.cells #[.int .i64 op, .int .i64 n, .string name, v3] 24)).alloc (.cells #[.int .i64 0, .int .i64 0, .string ⟨#[]⟩, .slice none 0 0] 30)).alloc (.cells #[.int .i64 op, .int .i64 n, .string name, .slice none 0 0] 30)) (w.heap.size + 1) 30 #[.int .i64 0, .int .i64 0, .string ⟨#[]⟩, .slice none 0 0] := by simpa using (Row.new (w.alloc (.cells #[.int .i64 op, .int .i64 n, .string name, v3] 24)) 30 #[.int .i64 0, .int .i64 0, .string ⟨#[]⟩, .slice none 0 0]).alloc (.cells #[.int .i64 op, .int .i64 n, .string name, .slice none 0 0] 30)
  have G0 : Row (((w.alloc (.cells #[.int .i64 op, .int .i64 n, .string name, v3] 24)).alloc (.cells #[.int .i64 0, .int .i64 0, .string ⟨#[]⟩, .slice none 0 0] 30)).alloc (.cells #[.int .i64 op, .int .i64 n, .string name, .slice none 0 0] 30)) (w.heap.size + 1 + 1) 30 #[.int .i64 op, .int .i64 n, .string name, .slice none 0 0] := by simpa using Row.new ((w.alloc (.cells #[.int .i64 op, .int .i64 n, .string name, v3] 24)).alloc (.cells #[.int .i64 0, .int .i64 0, .string ⟨#[]⟩, .slice none 0 0] 30)) 30 #[.int .i64 op, .int .i64 n, .string name, .slice none 0 0]
  have z0 : w.heap.size + 1 + 1 + 1 ≤ (((w.alloc (.cells #[.int .i64 op, .int .i64 n, .string name, v3] 24)).alloc (.cells #[.int .i64 0, .int .i64 0, .string ⟨#[]⟩, .slice none 0 0] 30)).alloc (.cells #[.int .i64 op, .int .i64 n, .string name, .slice none 0 0] 30)).heap.size := by simp
  go_wp2_with fail
  refine (KExprS.out kids v3 _ lo B (Nat.le_trans hB hb0.size) (by omega) (h3.below hb0 hB)).mono ?_
  rintro e w1 ⟨x3, rfl, hx3, e1⟩
  obtain ⟨A3, p3, rfl, _, _⟩ := (hx3 false).form
  have hb1 : Below w.heap.size w w1 := hb0.trans (e1.mono hb0.size)
  have B1 := B0.below e1 B0.lt
  have S1 := S0.below e1 S0.lt
  have G1 := G0.below e1 G0.lt
  have z1 : w.heap.size + 1 + 1 + 1 ≤ w1.heap.size := Nat.le_trans z0 e1.size
  have hy3 : ∀ m, Sl m (exS m d) w1 (w.heap.size + 1 + 1 + 1) w1.heap.size kids (.slice A3 kids.length p3) := fun m => (hx3 m).more z0 (Nat.le_refl _)
  have p1_0 : w1.cell? ⟨w.heap.size + 1 + 1, 0, none⟩ = some (.int .i64 op) := G1.cell 0
  have s1_0 : w1.cell? ⟨w.heap.size + 1, 0, none⟩ = some (.int .i64 0) := S1.cell 0
  have u1_0 : w1.frozen? ⟨w.heap.size + 1, 0, none⟩ = false := S1.frozen 0
  have p1_1 : w1.cell? ⟨w.heap.size + 1 + 1, 1, none⟩ = some (.int .i64 n) := G1.cell 1
  have s1_1 : w1.cell? ⟨w.heap.size + 1, 1, none⟩ = some (.int .i64 0) := S1.cell 1
  have u1_1 : w1.frozen? ⟨w.heap.size + 1, 1, none⟩ = false := S1.frozen 1
  have p1_2 : w1.cell? ⟨w.heap.size + 1 + 1, 2, none⟩ = some (.string name) := G1.cell 2
  have s1_2 : w1.cell? ⟨w.heap.size + 1, 2, none⟩ = some (.string ⟨#[]⟩) := S1.cell 2
  have u1_2 : w1.frozen? ⟨w.heap.size + 1, 2, none⟩ = false := S1.frozen 2
  have p1_3 : w1.cell? ⟨w.heap.size + 1 + 1, 3, none⟩ = some (.slice none 0 0) := G1.cell 3
  have s1_3 : w1.cell? ⟨w.heap.size + 1, 3, none⟩ = some (.slice none 0 0) := S1.cell 3
  have q1_3 : w1.frozen? ⟨w.heap.size + 1 + 1, 3, none⟩ = false := G1.frozen 3
  have u1_3 : w1.frozen? ⟨w.heap.size + 1, 3, none⟩ = false := S1.frozen 3
  go_wp2_with fail
  refine bodyPost_ret (v := .agg #[.int .i64 op, .int .i64 n, .string name, .slice A3 kids.length p3]) (by simp [results, Tryd.results14, go_sem, s1_0, s1_1, s1_2, s1_3]) rfl ⟨[.int .i64 op, .int .i64 n, .string name, .slice A3 kids.length p3], rfl, fun m => ?_, ?_⟩
  · exact ex_mk m d op n name kids _ h0 h1 h2 ((hy3 m).keep (by omega) (by simp [World.setCell]) (((((((Same.refl _ _ _).setCell (p := ⟨w.heap.size + 1 + 1, 3, none⟩) (.inl (by simp)) ((.slice A3 kids.length p3))).setCell (p := ⟨w.heap.size + 1, 0, none⟩) (.inl (by simp)) (.int .i64 op)).setCell (p := ⟨w.heap.size + 1, 1, none⟩) (.inl (by simp)) (.int .i64 n)).setCell (p := ⟨w.heap.size + 1, 2, none⟩) (.inl (by simp)) (.string name)).setCell (p := ⟨w.heap.size + 1, 3, none⟩) (.inl (by simp)) (.slice A3 kids.length p3))))
  · exact (((((hb1.setCell (p := ⟨w.heap.size + 1 + 1, 3, none⟩) (by simp; omega) ((.slice A3 kids.length p3))).setCell (p := ⟨w.heap.size + 1, 0, none⟩) (by simp) (.int .i64 op)).setCell (p := ⟨w.heap.size + 1, 1, none⟩) (by simp) (.int .i64 n)).setCell (p := ⟨w.heap.size + 1, 2, none⟩) (by simp) (.string name)).setCell (p := ⟨w.heap.size + 1, 3, none⟩) (by simp) (.slice A3 kids.length p3))

theorem Tryd.info_Expr : (Tryd.prog.info? 30).map (fun i => (i.zero, i.size, i.bytes)) = some (some (.agg #[.int .i64 0, .int .i64 0, .string ⟨#[]⟩, .slice none 0 0]), 4, 56) := by kernel_rfl
theorem to_ExprS_of (D : Nat) (HExpr : ∀ d, D = d + 1 → ∀ (op : Int) (n : Int) (name : ByteArray) (kids : List Ex) (v3 : Value) (w : World) (lo B : Nat) (_ : B ≤ w.heap.size) (_ : name.size + (kids.length + sumBy exN kids) ≤ 1048576) (_ : I64 op) (_ : I64 n) (_ : name.size ≤ maxLen) (_ : Sl false (exS false d) w lo B kids v3), Calls Tryd.prog 14 #[.agg #[.int .i64 op, .int .i64 n, .string name, v3]] w (ToP (fun m => (exS m (d + 1))) (Ex.mk op n name kids) w)) (l : List Ex) (v : Value) (w : World) (lo B : Nat) (hB : B ≤ w.heap.size) (hN : (l.length + sumBy exN l) ≤ 1048576) (hv : Sl false (exS false D) w lo B l v) :
    Calls Tryd.prog 40 #[v] w (ToSP (fun m => (exS m D)) l w) := by
  have KExpr := Lib.hid HExpr
  clear HExpr
  obtain ⟨A, cap, rfl, hlc, hcm⟩ := hv.form
  have hlen : l.length ≤ 1048576 := by omega
  obtain ⟨i0, hi, hz0, hz1, hz2⟩ := info_parts Tryd.info_Expr
  go_enter Tryd.func40, Tryd.ntmps40
  go_wp2_with (at_make; refine wpList_make_full _ rfl _ _ 28 rfl w.heap.size 30 i0 _ 4 Tryd.underlying28 hi hz0 hz1 _ _ _ _ l.length rfl rfl rfl rfl ?c1 ?c2 (Nat.le_refl _) ?c3)
  case c1 => rw [hz2]; omega
  case c2 => unfold maxLen; omega
  case c3 =>
    intro w1 hown hgrow
    obtain ⟨cur0, hr0, hs0, hb0, _, _, _⟩ := Row.of_own hown
    have hb1 : Below w.heap.size w w1 := (Below.refl _ _).grown hgrow (Nat.le_refl _) (fun k hk => by cases hk)
    obtain ⟨g, hg⟩ : ∃ g, g = w.heap.size := ⟨_, rfl⟩
    rw [← hg] at hr0 ⊢
    have hge : w.heap.size ≤ g := Nat.le_of_eq hg.symm
    have HG : Hid (g = w.heap.size) := hg
    clear hg hown hgrow hi hz0 hz1 hz2 hb0
    go_wp2_with fail
    go_loopw [4] (fun i wr => ∃ (k : Nat) (cur : Array Value), k ≤ l.length ∧ i = .int .i64 k ∧ Row wr g 30 cur ∧ cur.size = l.length * 4 ∧ (∀ m, Elems (exS m D) wr (g + 1) wr.heap.size cur k l) ∧ Below w.heap.size w wr) (fun i _ => l.length - (intOf i).toNat)
    case atStart => exact ⟨0, cur0, by omega, rfl, hr0, by simpa using hs0, fun m => Elems.zero _ _ _ _ _ _, hb1⟩
    case round =>
      obtain ⟨k, cur, hk, rfl, hrow, hcs, hdone, hb⟩ := hrel
      have hgl := hrow.lt
      have hsz := hb.size
      by_cases hkl : k < l.length
      · obtain ⟨d, rfl⟩ := exS_pos hv (by omega)
        obtain ⟨b, o, op, n, name, kids, v3, rfl, _, _, HL, g0, g1, g2, g3, c0, c1, c2, c3⟩ := ex_get d (hv.below hb hB) hkl
        have HC : Hid (cur.size = l.length * 4) := hcs
        have hk2 : k * 4 + 3 < cur.size := by omega
        clear hcs
        have hN1 : name.size + (kids.length + sumBy exN kids) ≤ 1048576 := by
          have h1 := sumBy_mem exN (List.getElem_mem hkl)
          rw [HL.out] at h1
          simp only [exN, exNs_eq] at h1
          omega
        go_wp2_with fail
        refine (KExpr.out d rfl op n name kids v3 _ lo B (by omega) hN1 g0 g1 g2 g3).mono ?_
        rintro e w2 ⟨cs, rfl, hx, hb2⟩
        obtain ⟨x3, rfl, t0, t1, t2, t3⟩ := ex_open d (hx false)
        obtain ⟨A3, p3, hxx3, _, _⟩ := t3.form
        change _ = Value.slice A3 kids.length p3 at hxx3
        subst hxx3
        have hr2 := hrow.below hb2 hgl
        have hsz2 := hb2.size
        obtain ⟨z0, hz0⟩ := hr2.cellAt (i := k * 4) (by omega)
        have hf0 := hr2.frozen (k * 4)
        obtain ⟨z1, hz1⟩ := hr2.cellAt (i := k * 4 + 1) (by omega)
        have hf1 := hr2.frozen (k * 4 + 1)
        obtain ⟨z2, hz2⟩ := hr2.cellAt (i := k * 4 + 2) (by omega)
        have hf2 := hr2.frozen (k * 4 + 2)
        obtain ⟨z3, hz3⟩ := hr2.cellAt (i := k * 4 + 3) (by omega)
        have hf3 := hr2.frozen (k * 4 + 3)
        clear t0 t1 t2 t3
        go_wp2_with fail
        go_roundw
        case rel =>
          refine ⟨k + 1, _, by omega, by go_num, ((((hr2.set_ (k * 4) (.int .i64 op)).set_ (k * 4 + 1) (.int .i64 n)).set_ (k * 4 + 2) (.string name)).set_ (k * 4 + 3) (.slice A3 kids.length p3)), by simpa using HC.out, fun m => ?_, ?_⟩
          · have hs1 : Same (g + 1) w2.heap.size w2 (((((w2).setCell ⟨g, k * 4, none⟩ (.int .i64 op)).setCell ⟨g, k * 4 + 1, none⟩ (.int .i64 n)).setCell ⟨g, k * 4 + 2, none⟩ (.string name)).setCell ⟨g, k * 4 + 3, none⟩ (.slice A3 kids.length p3)) := (((((Same.refl _ _ _).setCell (p := ⟨g, k * 4, none⟩) (.inl (by simp)) (.int .i64 op)).setCell (p := ⟨g, k * 4 + 1, none⟩) (.inl (by simp)) (.int .i64 n)).setCell (p := ⟨g, k * 4 + 2, none⟩) (.inl (by simp)) (.string name)).setCell (p := ⟨g, k * 4 + 3, none⟩) (.inl (by simp)) (.slice A3 kids.length p3))
            have hold : Elems (exS m (d + 1)) (((((w2).setCell ⟨g, k * 4, none⟩ (.int .i64 op)).setCell ⟨g, k * 4 + 1, none⟩ (.int .i64 n)).setCell ⟨g, k * 4 + 2, none⟩ (.string name)).setCell ⟨g, k * 4 + 3, none⟩ (.slice A3 kids.length p3)) (g + 1) w2.heap.size cur k l := (hdone m).keep (Nat.le_refl _) hsz2 (fun b h1 h2 => (hs1 b h1 (by omega)).trans (hb2.block b h2))
            have hnew : (exS m (d + 1)).rep (((((w2).setCell ⟨g, k * 4, none⟩ (.int .i64 op)).setCell ⟨g, k * 4 + 1, none⟩ (.int .i64 n)).setCell ⟨g, k * 4 + 2, none⟩ (.string name)).setCell ⟨g, k * 4 + 3, none⟩ (.slice A3 kids.length p3)) (g + 1) w2.heap.size ((Ex.mk op n name kids)) [.int .i64 op, .int .i64 n, .string name, .slice A3 kids.length p3] := (exS m (d + 1)).keep (hx m) (by omega) (Nat.le_refl _) (fun b h1 h2 => hs1 b (by omega) h2)
            have hsz3 : w2.heap.size ≤ (((((w2).setCell ⟨g, k * 4, none⟩ (.int .i64 op)).setCell ⟨g, k * 4 + 1, none⟩ (.int .i64 n)).setCell ⟨g, k * 4 + 2, none⟩ (.string name)).setCell ⟨g, k * 4 + 3, none⟩ (.slice A3 kids.length p3)).heap.size := by simp [World.setCell]
            refine Elems.succ (k := k) (a := (Ex.mk op n name kids)) (cs := [.int .i64 op, .int .i64 n, .string name, .slice A3 kids.length p3]) (hold.keep (Nat.le_refl _) hsz3 (fun _ _ _ => rfl)) (by rw [List.getElem?_eq_getElem hkl, HL.out]) ((exS m (d + 1)).more hnew (Nat.le_refl _) hsz3) ?_ ?_
            · intro j hj
              have hj' : j < k * 4 := by simpa [exS_size] using hj
              rw [set_ne (by omega), set_ne (by omega), set_ne (by omega), set_ne (by omega)]
            · intro j u hu
              match j, hu with
              | 0, hu =>
                have hu' := Option.some.inj hu
                subst hu'
                show _ = _
                rw [exS_size]
                refine (show (_ : Array Value)[k * 4]? = _ from ?_)
                rw [set_ne (by omega), set_ne (by omega), set_ne (by omega)]
                exact set_same (by first | omega | (simp only [Array.size_setIfInBounds]; omega)) _
              | 1, hu =>
                have hu' := Option.some.inj hu
                subst hu'
                show _ = _
                rw [exS_size]
                refine (show (_ : Array Value)[k * 4 + 1]? = _ from ?_)
                rw [set_ne (by omega), set_ne (by omega)]
                exact set_same (by first | omega | (simp only [Array.size_setIfInBounds]; omega)) _
              | 2, hu =>
                have hu' := Option.some.inj hu
                subst hu'
                show _ = _
                rw [exS_size]
                refine (show (_ : Array Value)[k * 4 + 2]? = _ from ?_)
                rw [set_ne (by omega)]
                exact set_same (by first | omega | (simp only [Array.size_setIfInBounds]; omega)) _
              | 3, hu =>
                have hu' := Option.some.inj hu
                subst hu'
                show _ = _
                rw [exS_size]
                refine (show (_ : Array Value)[k * 4 + 3]? = _ from ?_)
                exact set_same (by first | omega | (simp only [Array.size_setIfInBounds]; omega)) _
          · exact (((((hb.trans (hb2.mono hb.size)).setCell (p := ⟨g, k * 4, none⟩) hge (.int .i64 op)).setCell (p := ⟨g, k * 4 + 1, none⟩) hge (.int .i64 n)).setCell (p := ⟨g, k * 4 + 2, none⟩) hge (.string name)).setCell (p := ⟨g, k * 4 + 3, none⟩) hge (.slice A3 kids.length p3))
        case measure => simp [intOf]; omega
      · obtain rfl : k = l.length := by omega
        go_wp2_with fail
        go_ret
        exact ⟨_, rfl, fun m => Sl.of_row hrow hge hgl (Nat.le_refl _) (by unfold maxLen; omega) ((hdone m).keep (by omega) (Nat.le_refl _) (fun _ _ _ => rfl)), hb⟩

theorem to_ExprS : ∀ d : Nat, ∀ (l : List Ex) (v : Value) (w : World) (lo B : Nat) (_ : B ≤ w.heap.size) (_ : (l.length + sumBy exN l) ≤ 1048576) (_ : Sl false (exS false d) w lo B l v), Calls Tryd.prog 40 #[v] w (ToSP (fun m => (exS m d)) l w) := by
  intro d
  induction d with
  | zero => exact to_ExprS_of 0 (fun d h => by omega)
  | succ d ih =>
    refine to_ExprS_of (d + 1) (fun d' h => ?_)
    obtain rfl : d = d' := by omega
    exact to_Expr_of d ih
theorem to_Expr (d : Nat) : ∀ (op : Int) (n : Int) (name : ByteArray) (kids : List Ex) (v3 : Value) (w : World) (lo B : Nat) (_ : B ≤ w.heap.size) (_ : name.size + (kids.length + sumBy exN kids) ≤ 1048576) (_ : I64 op) (_ : I64 n) (_ : name.size ≤ maxLen) (_ : Sl false (exS false d) w lo B kids v3), Calls Tryd.prog 14 #[.agg #[.int .i64 op, .int .i64 n, .string name, v3]] w (ToP (fun m => (exS m (d + 1))) (Ex.mk op n name kids) w) := to_Expr_of d (to_ExprS d)

end Go.Proofs.YtnamciblapddbaaDoor

