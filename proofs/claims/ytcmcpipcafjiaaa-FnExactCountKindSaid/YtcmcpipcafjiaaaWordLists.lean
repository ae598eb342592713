/-
  The laws' own functions over lists of words (szWordS, toWordS, eqWordS). Conditions: the arguments read as words; at most 1048576 are left.
-/
import Derived.Test.YtcmcpipcafjiaaaWordLaws
namespace Go.Proofs.Ytcmcpipcafjiaaa
open Go.RowKit Go.ChangeShapes Go.WideShapes Go.Deep

/-- what szWordS answers -/
def SzPost (l : List (Int × ByteArray)) (left : Int) (w : World) (e : Ending) (w' : World) : Prop :=
  ∃ r : Int, e = .returned (.int .i64 r) ∧ r ≤ left ∧ -1 ≤ r ∧ Below w.heap.size w w' ∧ (0 ≤ r → (l.length : Int) ≤ left ∧ ∀ p ∈ l, (p.2.size : Int) ≤ left)

theorem szWordS_any (l : List (Int × ByteArray)) (v : Value) (left : Int) (hl : left ≤ 1048576) (h0 : 0 ≤ left) (w : World) (hv : Sl wordS w w.heap.size l v) :
    Calls Try.prog 5 #[v, .int .i64 left] w (SzPost l left w) := by
  obtain ⟨b, o, cap, A, rfl, hlc, hcm, hA, hB⟩ := hv.form
  clear hA hB
  unfold maxLen at hcm
  by_cases hlt : left < l.length
  · go_enter Try.func5, Try.ntmps5
    go_wp2
    go_ret
    exact ⟨-1, rfl, by omega, by omega, Below.refl _ _, fun h => by omega⟩
  · go_enter Try.func5, Try.ntmps5
    go_wp2_with fail
    go_loopw [1, 5] (fun t i wr => ∃ (k : Nat) (r : Int), k ≤ l.length ∧ i = .int .i64 k ∧ t = .int .i64 r ∧ 0 ≤ r ∧ r ≤ left - l.length ∧ (∀ p ∈ l.take k, (p.2.size : Int) ≤ left) ∧ Below w.heap.size w wr) (fun _ i _ => l.length - (intOf i).toNat)
    case atStart => exact ⟨0, _, by omega, rfl, rfl, by omega, by omega, by simp, Below.refl _ _⟩
    case round =>
      obtain ⟨k, r, hk, rfl, rfl, hr0, hr1, hall, hb⟩ := hrel
      by_cases hkl : k < l.length
      · obtain ⟨b', o', kk, s, rfl, hbB, hlk, hkk, hss, c0, c1⟩ := word_at (hv.below hb) hkl
        have HL : Hid (l[k] = (kk, s)) := hlk
        clear hlk
        have hq := szR_le (n := (s.size : Int)) hr0 (by omega)
        go_wp2_with (go_at_call 10; refine (szWord_any _ _ _ (by omega) (by omega) hss _).mono ?_; rintro e w' ⟨rfl, hb1⟩)
        · go_ret
          exact ⟨_, rfl, by omega, by omega, hb.trans (hb1.mono hb.size), fun h => by omega⟩
        · go_roundw
          case rel =>
            refine ⟨k + 1, _, by omega, by go_num, rfl, by omega, by omega, fun p hp => ?_, hb.trans (hb1.mono hb.size)⟩
            rw [List.take_succ_eq_append_getElem hkl, List.mem_append] at hp
            rcases hp with hp | hp
            · exact hall p hp
            · simp only [List.mem_singleton] at hp
              subst hp
              rw [HL.out]
              have := szR_pos (left := r) (n := (s.size : Int)) (by omega)
              simp only
              omega
          case measure => simp [intOf]; omega
      · go_wp2
        go_ret
        exact ⟨_, rfl, by omega, by omega, hb, fun _ => ⟨by omega, fun p hp => hall p (by rw [List.take_of_length_le (by omega)]; exact hp)⟩⟩

theorem Try.infoImplWord : (Try.prog.info? 33).map (fun i => (i.zero, i.size, i.bytes)) = some (some (.agg #[.int .i64 0, .string ⟨#[]⟩]), 2, 24) := by kernel_rfl

theorem toWordS_any (l : List (Int × ByteArray)) (v : Value) (hlen : l.length ≤ 1048576) (w : World) (hv : Sl wordS w w.heap.size l v) :
    Calls Try.prog 7 #[v] w fun e w' => ∃ v', e = .returned v' ∧ Sl wordS w' w'.heap.size l v' ∧ Below w.heap.size w w' := by
  obtain ⟨b, o, cap, A, rfl, hlc, hcm, hA, hB⟩ := hv.form
  clear hA hB
  unfold maxLen at hcm
  obtain ⟨i0, hi, hz0, hz1, hz2⟩ := info_parts Try.infoImplWord
  go_enter Try.func7, Try.ntmps7
  go_wp2_with (at_make; refine wpList_make_full _ rfl _ _ 26 rfl w.heap.size 33 i0 _ 2 Try.underlying26 hi hz0 hz1 _ _ _ _ l.length rfl rfl rfl rfl ?c1 ?c2 (Nat.le_refl _) ?c3)
  case c1 => rw [hz2]; omega
  case c2 => unfold maxLen; omega
  case c3 =>
    intro w1 hown hgrow
    obtain ⟨cur0, hr0, hs0, hb0, _, _, _⟩ := Row.of_own hown
    have hb1 : Below w.heap.size w w1 := (Below.refl _ _).grown hgrow (Nat.le_refl _) (fun k hk => by cases hk)
    obtain ⟨g, hg⟩ : ∃ g, g = w.heap.size := ⟨_, rfl⟩
    rw [← hg] at hr0 ⊢
    have HG : Hid (g = w.heap.size) := hg
    clear hg hown hgrow hi hz0 hz1 hz2 hb0
    go_wp2_with fail
    go_loopw [4] (fun i wr => ∃ (k : Nat) (cur : Array Value), k ≤ l.length ∧ i = .int .i64 k ∧ Row wr g 33 cur ∧ cur.size = l.length * 2 ∧ Elems wordS wr wr.heap.size cur k l ∧ Below w.heap.size w wr) (fun i _ => l.length - (intOf i).toNat)
    case atStart => exact ⟨0, cur0, by omega, rfl, hr0, hs0, Elems.zero _ _ _ _ _, hb1⟩
    case round =>
      obtain ⟨k, cur, hk, rfl, hrow, hcs, hdone, hb⟩ := hrel
      have hgl := hrow.lt
      by_cases hkl : k < l.length
      · obtain ⟨b', o', kk, s, rfl, hbB, hlk, hkk, hss, c0, c1⟩ := word_at (hv.below hb) hkl
        have HL : Hid (l[k] = (kk, s)) := hlk
        have HC : Hid (cur.size = l.length * 2) := hcs
        have hk2 : k * 2 + 1 < cur.size := by omega
        clear hlk hcs
        go_wp2_with fail
        refine (toWord_any _ _ _).mono ?_
        rintro e w2 ⟨rfl, hb2⟩
        have hr2 := hrow.below hb2 hgl
        have hsz2 := hb2.size
        obtain ⟨z0, hz0⟩ := hr2.cellAt (i := k * 2) (by omega)
        obtain ⟨z1, hz1⟩ := hr2.cellAt (i := k * 2 + 1) (by omega)
        have hf0 := hr2.frozen (k * 2)
        have hf1 := hr2.frozen (k * 2 + 1)
        go_wp2
        go_roundw
        case rel =>
          refine ⟨k + 1, _, by omega, by go_num, (hr2.set_ _ _).set_ _ _, by simpa using HC.out, ?_, ?_⟩
          · refine Elems.succ (w := (w2.setCell _ _).setCell _ _) (cur := cur) (cs := [.int .i64 kk, .string s]) ?_ (a := (kk, s)) ?_ ⟨rfl, hkk, hss⟩ ?_ ?_
            · exact fun i a hi ha => hdone i a hi ha
            · rw [List.getElem?_eq_getElem hkl, HL.out]
            · intro j hj
              have hj' : j < k * 2 := hj
              rw [set_ne (by omega), set_ne (by omega)]
            · intro j u hu
              match j, hu with
              | 0, hu =>
                simp only [List.getElem?_cons_zero, Option.some.injEq] at hu
                subst hu
                show (Array.setIfInBounds _ _ _)[k * 2 + 0]? = _
                rw [set_ne (by omega)]
                exact set_same (by omega) _
              | 1, hu =>
                simp only [List.getElem?_cons_succ, List.getElem?_cons_zero, Option.some.injEq] at hu
                subst hu
                exact set_same (by simpa using hk2) _
          · have hge : w.heap.size ≤ g := Nat.le_of_eq HG.out.symm
            exact ((hb.trans (hb2.mono hb.size)).setCell hge _).setCell hge _
        case measure => simp [intOf]; omega
      · obtain rfl : k = l.length := by omega
        go_wp2
        go_ret
        exact ⟨_, rfl, Sl.of_row hrow hgl (Nat.le_refl _) (by unfold maxLen; omega) hdone, hb⟩

theorem eqWordS_same (l : List (Int × ByteArray)) (v v' : Value) (w : World) (hv : Sl wordS w w.heap.size l v) (hv' : Sl wordS w w.heap.size l v') :
    Calls Try.prog 9 #[v, v'] w fun e w' => e = .returned (.bool true) ∧ Below w.heap.size w w' := by
  obtain ⟨b, o, cap, A, rfl, hlc, hcm, hA, hB⟩ := hv.form
  obtain ⟨b2, o2, cap2, A2, rfl, hlc2, hcm2, hA2, hB2⟩ := hv'.form
  clear hA hB hA2 hB2
  unfold maxLen at hcm hcm2
  go_enter Try.func9, Try.ntmps9
  go_wp2_with fail
  go_loopw [5] (fun i wr => ∃ k : Nat, k ≤ l.length ∧ i = .int .i64 k ∧ Below w.heap.size w wr) (fun i _ => l.length - (intOf i).toNat)
  case atStart => exact ⟨0, by omega, rfl, Below.refl _ _⟩
  case round =>
    obtain ⟨k, hk, rfl, hb⟩ := hrel
    by_cases hkl : k < l.length
    · obtain ⟨b', o', kk, s, rfl, hbB, hlk, hkk, hss, c0, c1⟩ := word_at (hv.below hb) hkl
      obtain ⟨b3, o3, kk', s', rfl, hbB3, hlk', hkk', hss', c3, c4⟩ := word_at (hv'.below hb) hkl
      rw [hlk] at hlk'
      injection hlk' with h1 h2
      subst h1 h2
      clear hlk
      have hki : (0 : Int) ≤ (k : Int) := by omega
      have hkn : (k : Int) < (l.length : Int) := by omega
      go_wp2_with fail
      go_still_tail 8, (by kernel_rfl)
      have hbd : Below w.heap.size w wr.drew := hb.drew
      change wpList _ _ _ _ _ wr.drew
      generalize wr.drew = w2 at hbd ⊢
      go_wp2_with (go_at_call 12; refine (eqWord_same _ _ _).mono ?_; rintro e w' ⟨rfl, hb1⟩)
      go_roundw
      case rel => exact ⟨k + 1, by omega, by go_num, hbd.trans (hb1.mono hbd.size)⟩
      case measure => simp [intOf]; omega
    · go_wp2
      go_ret
      exact ⟨rfl, hb⟩
end Go.Proofs.Ytcmcpipcafjiaaa
