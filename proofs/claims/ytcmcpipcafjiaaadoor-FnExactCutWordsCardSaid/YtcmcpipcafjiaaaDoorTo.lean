/-
  The to.. functions: they answer the same datum in new memory. Conditions: the arguments read as data, of size at most 1048576.
-/
import Derived.Test.YtcmcpipcafjiaaaDoorSz
namespace Go.Proofs.YtcmcpipcafjiaaaDoor
open Go.RowKit Go.ChangeShapes Go.WideShapes Go.Deep
set_option linter.unusedVariables false

/-- between lo and B the world w' is as w was -/
def Same (lo B : Nat) (w w' : World) : Prop := ∀ b : Nat, lo ≤ b → b < B → w'.heap[b]? = w.heap[b]?
theorem Same.refl (lo B : Nat) (w : World) : Same lo B w w := fun _ _ _ => rfl
theorem Same.setCell {lo B : Nat} {w w' : World} (h : Same lo B w w') {p : Addr} (hp : p.block < lo ∨ B ≤ p.block) (u : Value) : Same lo B w (w'.setCell p u) := fun b h1 h2 => (Below.heap_setCell w' p u b (by omega)).trans (h b h1 h2)
theorem Same.below {lo B B' : Nat} {w w' w'' : World} (h : Same lo B w w') (hb : Below B' w' w'') (hB : B ≤ B') : Same lo B w w'' := fun b h1 h2 => (hb.block b (by omega)).trans (h b h1 h2)
theorem Same.alloc {lo B : Nat} {w w' : World} (h : Same lo B w w') (hB : B ≤ w'.heap.size) (o : Obj) : Same lo B w (w'.alloc o) := fun b h1 h2 => (Below.heap_alloc w' o b (by omega)).trans (h b h1 h2)
/-- what a to.. function of a struct answers: the same datum in new memory that may be written -/
def ToP {α : Type} (S : Bool → Shp α) (a : α) (w : World) (e : Ending) (w' : World) : Prop :=
  ∃ cs : List Value, e = .returned (.agg cs.toArray) ∧ (∀ m, (S m).rep w' w.heap.size w'.heap.size a cs) ∧ Below w.heap.size w w'
/-- .. of a slice -/
def ToSP {α : Type} (S : Bool → Shp α) (l : List α) (w : World) (e : Ending) (w' : World) : Prop :=
  ∃ v : Value, e = .returned v ∧ (∀ m, Sl m (S m) w' w.heap.size w'.heap.size l v) ∧ Below w.heap.size w w'

theorem to_Word (kind : Int) (text : ByteArray) (w : World) (lo B : Nat) (_hB : B ≤ w.heap.size) (_hN : text.size ≤ 1048576) (h0 : I64 kind) (h1 : text.size ≤ maxLen) :
    Calls Tryd.prog 19 #[.agg #[.int .i64 kind, .string text]] w (ToP (fun m => (wordS m)) (⟨kind, text⟩ : WordD) w) := by
  go_enter Tryd.func19, Tryd.ntmps19
  go_wp2_with fail
  refine bodyPost_ret (v := .agg #[.int .i64 kind, .string text]) (by simp [results, Tryd.results19, go_sem]) rfl ⟨_, rfl, fun m => word_mk m kind text h0 h1, ?_⟩
  exact (((Below.refl _ _).alloc (Nat.le_refl _) _).alloc (by simp) _).alloc (by simp; omega) _

theorem Tryd.info_Word : (Tryd.prog.info? 32).map (fun i => (i.zero, i.size, i.bytes)) = some (some (.agg #[.int .i64 0, .string ⟨#[]⟩]), 2, 24) := by kernel_rfl
theorem to_WordS (l : List WordD) (v : Value) (w : World) (lo B : Nat) (hB : B ≤ w.heap.size) (hN : (l.length + sumBy wordN l) ≤ 1048576) (hv : Sl false (wordS false) w lo B l v) :
    Calls Tryd.prog 30 #[v] w (ToSP (fun m => (wordS m)) l w) := by
  obtain ⟨A, cap, rfl, hlc, hcm⟩ := hv.form
  have hlen : l.length ≤ 1048576 := by omega
  obtain ⟨i0, hi, hz0, hz1, hz2⟩ := info_parts Tryd.info_Word
  go_enter Tryd.func30, Tryd.ntmps30
  go_wp2_with (at_make; refine wpList_make_full _ rfl _ _ 36 rfl w.heap.size 32 i0 _ 2 Tryd.underlying36 hi hz0 hz1 _ _ _ _ l.length rfl rfl rfl rfl ?c1 ?c2 (Nat.le_refl _) ?c3)
  case c1 => rw [hz2]; omega
  case c2 => unfold maxLen; omega
  case c3 =>
    intro w1 hown hgrow
    obtain ⟨cur0, hr0, hs0, hb0, _, _, _⟩ := Row.of_own hown
    have hb1 : Below w.heap.size w w1 := (Below.refl _ _).grown hgrow (Nat.le_refl _) (fun k hk => by cases hk)
    obtain ⟨g, hg⟩ : ∃ g, g = w.heap.size := ⟨_, rfl⟩
    rw [← hg] at hr0 ⊢
    have hge : w.heap.size ≤ g := Nat.le_of_eq hg.symm
    have HG : Hid (g = w.heap.size) := hg
    clear hg hown hgrow hi hz0 hz1 hz2 hb0
    go_wp2_with fail
    go_loopw [4] (fun i wr => ∃ (k : Nat) (cur : Array Value), k ≤ l.length ∧ i = .int .i64 k ∧ Row wr g 32 cur ∧ cur.size = l.length * 2 ∧ (∀ m, Elems (wordS m) wr (g + 1) wr.heap.size cur k l) ∧ Below w.heap.size w wr) (fun i _ => l.length - (intOf i).toNat)
    case atStart => exact ⟨0, cur0, by omega, rfl, hr0, by simpa using hs0, fun m => Elems.zero _ _ _ _ _ _, hb1⟩
    case round =>
      obtain ⟨k, cur, hk, rfl, hrow, hcs, hdone, hb⟩ := hrel
      have hgl := hrow.lt
      have hsz := hb.size
      by_cases hkl : k < l.length
      · obtain ⟨b, o, kind, text, rfl, _, _, HL, g0, g1, c0, c1⟩ := word_get (hv.below hb hB) hkl
        have HC : Hid (cur.size = l.length * 2) := hcs
        have hk2 : k * 2 + 1 < cur.size := by omega
        clear hcs
        have hN1 : text.size ≤ 1048576 := by
          have h1 := sumBy_mem wordN (List.getElem_mem hkl)
          rw [HL.out] at h1
          simp only [wordN] at h1
          omega
        go_wp2_with fail
        refine (to_Word kind text _ lo B (by omega) hN1 g0 g1).mono ?_
        rintro e w2 ⟨cs, rfl, hx, hb2⟩
        obtain ⟨rfl, t0, t1⟩ := word_open (hx false)
        have hr2 := hrow.below hb2 hgl
        have hsz2 := hb2.size
        obtain ⟨z0, hz0⟩ := hr2.cellAt (i := k * 2) (by omega)
        have hf0 := hr2.frozen (k * 2)
        obtain ⟨z1, hz1⟩ := hr2.cellAt (i := k * 2 + 1) (by omega)
        have hf1 := hr2.frozen (k * 2 + 1)
        clear t0 t1
        go_wp2_with fail
        go_roundw
        case rel =>
          refine ⟨k + 1, _, by omega, by go_num, ((hr2.set_ (k * 2) (.int .i64 kind)).set_ (k * 2 + 1) (.string text)), by simpa using HC.out, fun m => ?_, ?_⟩
          · have hs1 : Same (g + 1) w2.heap.size w2 (((w2).setCell ⟨g, k * 2, none⟩ (.int .i64 kind)).setCell ⟨g, k * 2 + 1, none⟩ (.string text)) := (((Same.refl _ _ _).setCell (p := ⟨g, k * 2, none⟩) (.inl (by simp)) (.int .i64 kind)).setCell (p := ⟨g, k * 2 + 1, none⟩) (.inl (by simp)) (.string text))
            have hold : Elems (wordS m) (((w2).setCell ⟨g, k * 2, none⟩ (.int .i64 kind)).setCell ⟨g, k * 2 + 1, none⟩ (.string text)) (g + 1) w2.heap.size cur k l := (hdone m).keep (Nat.le_refl _) hsz2 (fun b h1 h2 => (hs1 b h1 (by omega)).trans (hb2.block b h2))
            have hnew : (wordS m).rep (((w2).setCell ⟨g, k * 2, none⟩ (.int .i64 kind)).setCell ⟨g, k * 2 + 1, none⟩ (.string text)) (g + 1) w2.heap.size ((⟨kind, text⟩ : WordD)) [.int .i64 kind, .string text] := (wordS m).keep (hx m) (by omega) (Nat.le_refl _) (fun b h1 h2 => hs1 b (by omega) h2)
            have hsz3 : w2.heap.size ≤ (((w2).setCell ⟨g, k * 2, none⟩ (.int .i64 kind)).setCell ⟨g, k * 2 + 1, none⟩ (.string text)).heap.size := by simp [World.setCell]
            refine Elems.succ (k := k) (a := (⟨kind, text⟩ : WordD)) (cs := [.int .i64 kind, .string text]) (hold.keep (Nat.le_refl _) hsz3 (fun _ _ _ => rfl)) (by rw [List.getElem?_eq_getElem hkl, HL.out]) ((wordS m).more hnew (Nat.le_refl _) hsz3) ?_ ?_
            · intro j hj
              have hj' : j < k * 2 := by simpa [wordS] using hj
              rw [set_ne (by omega), set_ne (by omega)]
            · intro j u hu
              match j, hu with
              | 0, hu =>
                have hu' := Option.some.inj hu
                subst hu'
                refine (show (_ : Array Value)[k * 2]? = _ from ?_)
                rw [set_ne (by omega)]
                exact set_same (by first | omega | (simp only [Array.size_setIfInBounds]; omega)) _
              | 1, hu =>
                have hu' := Option.some.inj hu
                subst hu'
                refine (show (_ : Array Value)[k * 2 + 1]? = _ from ?_)
                exact set_same (by first | omega | (simp only [Array.size_setIfInBounds]; omega)) _
          · exact (((hb.trans (hb2.mono hb.size)).setCell (p := ⟨g, k * 2, none⟩) hge (.int .i64 kind)).setCell (p := ⟨g, k * 2 + 1, none⟩) hge (.string text))
        case measure => simp [intOf]; omega
      · obtain rfl : k = l.length := by omega
        go_wp2_with fail
        go_ret
        exact ⟨_, rfl, fun m => Sl.of_row hrow hge hgl (Nat.le_refl _) (by unfold maxLen; omega) ((hdone m).keep (by omega) (Nat.le_refl _) (fun _ _ _ => rfl)), hb⟩

end Go.Proofs.YtcmcpipcafjiaaaDoor

