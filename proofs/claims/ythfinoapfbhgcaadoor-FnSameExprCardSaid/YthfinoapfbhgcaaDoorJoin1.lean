/-
  Words joined, by the program. Conditions: the words read as data and are of bulk at most 1048576; the table of keys lies.
-/
import Derived.Test.YthfinoapfbhgcaaDoorJoin0
import Derived.Test.YthfinoapfbhgcaaDoorTo
import Derived.Test.YthfinoapfbhgcaaDoorShelf
namespace Go.Proofs.YthfinoapfbhgcaaDoor
open Go.RowKit Go.ChangeShapes Go.WideShapes Go.Deep
set_option linter.unusedSimpArgs false
set_option linter.unusedVariables false
theorem Tryd.info_strJ : (Tryd.prog.info? 9).map (fun i => (i.zero, i.size, i.bytes)) = some (some (.string ⟨#[]⟩), 1, 16) := by kernel_rfl
/-- the words' texts lie in the row, as far as k -/
def TxAt (k : Nat) (l : List WordD) (cur : Array Value) : Prop := ∀ (j : Nat) a, j < k → l[j]? = some a → cur[j]? = some (.string a.text)
theorem TxAt.zero (l : List WordD) (cur : Array Value) : TxAt 0 l cur := fun j a h => absurd h (by omega)
theorem TxAt.succ {k : Nat} {l : List WordD} {cur : Array Value} {a : WordD} (h : TxAt k l cur) (hk : k < cur.size) (ha : l[k]? = some a) : TxAt (k + 1) l (cur.setIfInBounds k (.string a.text)) := by
  intro j b hj hb
  by_cases he : j = k
  · subst he
    rw [ha] at hb
    obtain rfl := Option.some.inj hb
    exact set_same hk _
  · rw [set_ne (by omega) _]
    exact h j b (by omega) hb
theorem join_call (g : Nat) (l : List WordD) (w : World) (cur : Array Value) (h : Row w g 9 cur) (hx : TxAt l.length l cur) (hN : (l.length + sumBy wordN l) ≤ 1048576) :
    Calls Tryd.prog 35 #[.slice (some ⟨g, 0, none⟩) l.length l.length, .string ⟨#[32]⟩] w (RetV (.string (jT l)) w) := by
  have e : (l.map (·.text)).map (·.data.toList) = tx l := by unfold tx; rw [List.map_map]; rfl
  have hs := jT_len l
  have hc : ∀ (j : Nat) x, (l.map (·.text))[j]? = some x → w.cell? ⟨g, 0 + j, none⟩ = some (.string x) := by
    intro j x hj
    rw [List.getElem?_map] at hj
    rw [Nat.zero_add, h.cell]
    cases ha : l[j]? with
    | none => rw [ha] at hj; cases hj
    | some a =>
      rw [ha] at hj
      obtain rfl := Option.some.inj hj
      exact hx j a (List.getElem?_eq_some_iff.1 ha).1 ha
  have hl : (Lib.join ((l.map (·.text)).map (·.data.toList)) (⟨#[32]⟩ : ByteArray).data.toList).length = (jT l).size := by
    rw [e]
    unfold jT
    simp [ByteArray.size]
  have H := Tryd.strings_Join g 0 l.length (l.map (·.text)) ⟨#[32]⟩ w hc h.lt (by rw [List.length_map]; omega) (by rw [List.length_map]; omega) (by rw [hl]; omega)
  rw [List.length_map, e] at H
  exact H
set_option maxRecDepth 100000 in
set_option maxHeartbeats 4000000 in
theorem impl_JoinWords (l : List WordD) (v : Value) (w : World) (lo B : Nat) (hB : B ≤ w.heap.size) (hN : (l.length + sumBy wordN l) ≤ 1048576) (hv : Sl false (wordS false) w lo B l v) (ht : KeysAt w) :
    Calls Tryd.prog 23 #[v] w (RetV (jV l) w) := by
  obtain ⟨A, cap, rfl, hlc, hcm⟩ := hv.form
  by_cases h6 : l.length ≤ 600
  case neg =>
    have E : Hid (jV l = .tuple #[.string ⟨#[]⟩, .bool false]) := jV_no (by unfold jOk; simp [h6])
    have q7 : decide ((600 : Int) < (l.length : Int)) = true := by simp; omega
    clear h6
    go_enter Tryd.func23, Tryd.ntmps23
    go_wp2_with fail
    go_ret2
    exact RetV.mk (by rw [E.out] <;> rfl) rfl (Below.refl _ _)
  have q7 : decide ((600 : Int) < (l.length : Int)) = false := by simp; omega
  have HJ := Lib.hid (jT_len l)
  obtain ⟨i0, hi, hz0, hz1, hz2⟩ := info_parts Tryd.info_strJ
  go_enter Tryd.func23, Tryd.ntmps23
  go_wp2_with (at_make; refine wpList_make_full _ rfl _ _ 44 rfl w.heap.size 9 i0 _ 1 Tryd.underlying44 hi hz0 hz1 _ _ _ _ l.length rfl rfl rfl rfl ?c1 ?c2 (Nat.le_refl _) ?c3)
  case c1 => rw [hz2]; omega
  case c2 => unfold maxLen; omega
  case c3 =>
    intro w1 hown hgrow
    obtain ⟨cur0, hr0, hs0, hb0, _, _, _⟩ := Row.of_own hown
    have hb1 : Below w.heap.size w w1 := (Below.refl _ _).grown hgrow (Nat.le_refl _) (fun k hk => by cases hk)
    obtain ⟨g, hg⟩ : ∃ g, g = w.heap.size := ⟨_, rfl⟩
    rw [← hg] at hr0 ⊢
    have hge : w.heap.size ≤ g := Nat.le_of_eq hg.symm
    have HG : Hid (g = w.heap.size) := hg
    clear hg hown hgrow hi hz0 hz1 hz2 hb0
    go_wp2_with fail
    go_loopw [16] (fun i wr => ∃ (k : Nat) (cur : Array Value), k ≤ l.length ∧ i = .int .i64 k ∧ Row wr g 9 cur ∧ cur.size = l.length ∧ Hid (TxAt k l cur) ∧ Hid (l.all wv = (l.drop k).all wv) ∧ Below w.heap.size w wr) (fun i _ => l.length - (intOf i).toNat)
    case atStart => exact ⟨0, cur0, by omega, rfl, hr0, by simpa using hs0, TxAt.zero _ _, (show _ = _ from rfl), hb1⟩
    case round =>
      obtain ⟨k, cur, hk, rfl, hrow, hcs, HX, HA, hb⟩ := hrel
      have hgl := hrow.lt
      have hsz := hb.size
      by_cases hkl : k < l.length
      · obtain ⟨b, o, kind, text, rfl, hlb, hbB, HL, g0, g1, c0, c1⟩ := word_get (hv.below hb hB) hkl
        have HC : Hid (cur.size = l.length) := hcs
        have hk2 : k < cur.size := by omega
        clear hcs
        have HR : Hid (Row wr g 9 cur) := hrow
        clear hrow
        go_wp2_with fail
        have hbA : Below w.heap.size w (wr.alloc (.cells #[.int .i64 kind, .string text] 59)) := hb.alloc hb.size _
        have R0 : Row (wr.alloc (.cells #[.int .i64 kind, .string text] 59)) wr.heap.size 59 #[.int .i64 kind, .string text] := Row.new wr _ _
        have hrA := HR.out.alloc (.cells #[.int .i64 kind, .string text] 59)
        refine (impl_WordValid kind text _ g1 (ht.below hbA (Nat.le_refl _))).mono ?_
        rintro e w2 ⟨rfl, b2⟩
        have hb2 : Below w.heap.size w w2 := hbA.trans (b2.mono hbA.size)
        have R2 := R0.below b2 R0.lt
        have hrow := hrA.below b2 hrA.lt
        have y1 : w2.cell? ⟨wr.heap.size, 1, none⟩ = some (.string text) := R2.cell 1
        clear R0 R2 hrA c0 c1
        cases hvb : wvB kind text
        · have E : Hid (jV l = .tuple #[.string ⟨#[]⟩, .bool false]) := jV_no (by
            have h1 := HA.out
            rw [drop_all2 hkl HL.out, show wv ⟨kind, text⟩ = false from hvb] at h1
            unfold jOk
            rw [h1]
            simp)
          clear hvb hrow
          go_wp2_with fail
          go_ret2
          exact RetV.mk (by rw [E.out] <;> rfl) rfl hb2
        · have HA' : Hid (l.all wv = (l.drop (k + 1)).all wv) := by
            have h1 := HA.out
            rw [drop_all2 hkl HL.out, show wv ⟨kind, text⟩ = true from hvb, Bool.true_and] at h1
            exact h1
          clear hvb
          obtain ⟨z0, hz0⟩ := hrow.cellAt (i := k) (by omega)
          have hf0 := hrow.frozen k
          have HR2 : Hid (Row w2 g 9 cur) := hrow
          clear hrow
          go_wp2_with fail
          go_roundw
          case rel => exact ⟨k + 1, _, by omega, by go_num, HR2.out.set_ _ _, by simpa using HC.out, HX.out.succ (a := ⟨kind, text⟩) hk2 (by rw [List.getElem?_eq_getElem hkl, HL.out]), HA', hb2.setCell hge _⟩
          case measure => simp [intOf]; omega
      · obtain rfl : k = l.length := by omega
        have EA : l.all wv = true := by
          have h := HA.out
          rw [List.drop_length] at h
          exact h
        have HC := Lib.hid (join_call g l wr cur hrow HX.out hN)
        clear hrow hcs HA
        go_wp2_with fail
        refine HC.out.mono ?_
        rintro e w2 ⟨rfl, b2⟩
        have hb2 : Below w.heap.size w w2 := hb.trans (b2.mono hb.size)
        obtain ⟨T, hT⟩ : ∃ T, jT l = T := ⟨_, rfl⟩
        have hT2 : T.size ≤ 1048576 := by have := HJ.out; rw [hT] at this; omega
        by_cases h3 : T.size ≤ 3000
        · have q3 : decide ((3000 : Int) < (T.size : Int)) = false := by simp; omega
          have E : Hid (jV l = .tuple #[.string T, .bool true]) := by
            have := jV_yes (l := l) (by unfold jOk; rw [EA, hT]; simp [h6, h3])
            rw [hT] at this
            exact this
          rw [hT]
          clear EA h3 hT
          go_wp2_with fail
          go_ret2
          exact RetV.mk (by rw [E.out] <;> rfl) rfl hb2
        · have q3 : decide ((3000 : Int) < (T.size : Int)) = true := by simp; omega
          have E : Hid (jV l = .tuple #[.string ⟨#[]⟩, .bool false]) := jV_no (by unfold jOk; rw [hT]; simp [h3])
          rw [hT]
          clear EA h3 hT
          go_wp2_with fail
          go_ret2
          exact RetV.mk (by rw [E.out] <;> rfl) rfl hb2
end Go.Proofs.YthfinoapfbhgcaaDoor
