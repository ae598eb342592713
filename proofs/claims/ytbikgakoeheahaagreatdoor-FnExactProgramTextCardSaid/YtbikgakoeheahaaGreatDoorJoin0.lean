/-
  Words joined: the plain function; by the reference. Condition: the words read as data and are of bulk at most 1048576.
-/
import Derived.Test.YtbikgakoeheahaaGreatDoorWord
import Derived.Test.YtbikgakoeheahaaGreatDoorWd
import Derived.Lib.Join
namespace Go.Proofs.YtbikgakoeheahaaGreatDoor
open Go.RowKit Go.ChangeShapes Go.WideShapes Go.Deep
set_option linter.unusedSimpArgs false
set_option linter.unusedVariables false
theorem word_get {w : World} {lo B : Nat} {l : List WordD} {A : Option Addr} {n cap : Nat} (h : Sl false (wordS false) w lo B l (.slice A n cap)) {i : Nat} (hi : i < l.length) :
    ∃ (b o : Nat) (kind : Int) (text : ByteArray), A = some ⟨b, o, none⟩ ∧ lo ≤ b ∧ b < B ∧ Hid (l[i] = ⟨kind, text⟩) ∧ I64 kind ∧ text.size ≤ maxLen ∧ w.cell? ⟨b, o + i * 2, none⟩ = some (.int .i64 kind) ∧ w.cell? ⟨b, o + i * 2 + 1, none⟩ = some (.string text) := by
  obtain ⟨b, o, cs, rfl, hlb, hb, _, hr, hc⟩ := h.at_ hi
  obtain ⟨e, hl⟩ : ∃ e, l[i] = e := ⟨_, rfl⟩
  rw [hl] at hr ⊢
  obtain ⟨rfl, g0, g1⟩ := word_open hr
  obtain ⟨kind, text⟩ := e
  exact ⟨b, o, kind, text, rfl, hlb, hb, rfl, g0, g1, hc 0 _ rfl, hc 1 _ rfl⟩
/-- the words' texts -/
def tx (l : List WordD) : List (List UInt8) := l.map fun a => a.text.data.toList
def jT (l : List WordD) : ByteArray := ⟨(Lib.join (tx l) [32]).toArray⟩
def wv (a : WordD) : Bool := wvB a.kind a.text
def jOk (l : List WordD) : Bool := decide (l.length ≤ 600) && (l.all wv && decide ((jT l).size ≤ 3000))
def jV (l : List WordD) : Value := if jOk l then .tuple #[.string (jT l), .bool true] else .tuple #[.string ⟨#[]⟩, .bool false]
theorem jV_no {l : List WordD} (h : jOk l = false) : jV l = .tuple #[.string ⟨#[]⟩, .bool false] := by
  unfold jV
  rw [h]
  rfl
theorem jV_yes {l : List WordD} (h : jOk l = true) : jV l = .tuple #[.string (jT l), .bool true] := by
  unfold jV
  rw [if_pos h]
theorem join_snoc (r : List (List UInt8)) (y : List UInt8) : Lib.join (r ++ [y]) [32] = if r = [] then y else Lib.join r [32] ++ ([32] ++ y) := by
  cases r with
  | nil => rw [if_pos rfl, List.nil_append, Lib.join_one]
  | cons x r =>
    rw [if_neg (by simp), List.cons_append, Lib.join_cons, Lib.join_cons]
    unfold Lib.joinTail
    simp
theorem jT_zero : jT [] = ⟨#[]⟩ := rfl
theorem take_snoc {l : List WordD} {k : Nat} (h : k < l.length) : l.take (k + 1) = l.take k ++ [l[k]] := List.take_succ_eq_append_getElem h
theorem jT_first {l : List WordD} (h : 0 < l.length) : jT (l.take 1) = l[0].text := by
  have h1 := take_snoc (k := 0) h
  rw [show (0 + 1 : Nat) = 1 from rfl] at h1
  rw [h1]
  unfold jT tx
  refine ba_of ?_
  simp [Lib.join_one]
theorem jT_next {l : List WordD} {k : Nat} (h : k < l.length) (h0 : 0 < k) : jT (l.take (k + 1)) = jT (l.take k) ++ ⟨#[32]⟩ ++ l[k].text := by
  rw [take_snoc h]
  unfold jT tx
  rw [List.map_append, List.map_cons, List.map_nil, join_snoc, if_neg (fun e => by have h2 := congrArg List.length e; rw [List.length_map, List.length_take, List.length_nil] at h2; omega)]
  refine ba_of ?_
  simp
theorem jT_len (l : List WordD) : (jT l).size ≤ l.length + sumBy wordN l := by
  have h : ∀ l : List WordD, (Lib.joinTail [32] (tx l)).length ≤ l.length + sumBy wordN l := by
    intro l
    induction l with
    | nil => exact Nat.le_refl _
    | cons a r ih =>
      simp only [tx, Lib.joinTail, sumBy, List.map_cons, List.flatten_cons, List.length_append, List.sum_cons, List.length_cons, List.length_nil] at ih ⊢
      have : a.text.data.toList.length = wordN a := by simp [wordN]
      omega
  cases l with
  | nil => exact Nat.zero_le _
  | cons a r =>
    have h1 := h r
    show (Lib.join (tx (a :: r)) [32]).toArray.size ≤ _
    rw [show tx (a :: r) = a.text.data.toList :: tx r from rfl, Lib.join_cons]
    have : a.text.data.toList.length = wordN a := by simp [wordN]
    simp only [List.size_toArray, List.length_append, sumBy, List.map_cons, List.sum_cons, List.length_cons] at h1 ⊢
    omega
theorem sum_take (l : List WordD) (k : Nat) : sumBy wordN (l.take k) ≤ sumBy wordN l := by
  induction l generalizing k with
  | nil => simp
  | cons a r ih =>
    cases k with
    | zero => simp [sumBy]
    | succ k =>
      have := ih k
      simp only [sumBy, List.take_succ_cons, List.map_cons, List.sum_cons] at this ⊢
      omega
theorem drop_all2 {α : Type} {l : List α} {p : α → Bool} {k : Nat} {a : α} (h : k < l.length) (ha : l[k] = a) : (l.drop k).all p = (p a && (l.drop (k + 1)).all p) := by
  rw [List.drop_eq_getElem_cons h, ha, List.all_cons]
set_option maxRecDepth 100000 in
set_option maxHeartbeats 4000000 in
theorem spec_JoinWords (l : List WordD) (v : Value) (w : World) (lo B : Nat) (hB : B ≤ w.heap.size) (hN : (l.length + sumBy wordN l) ≤ 1048576) (hv : Sl false (wordS false) w lo B l v) :
    Calls Tryz.prog 26 #[v] w (RetV (jV l) w) := by
  obtain ⟨A, cap, rfl, hlc, hcm⟩ := hv.form
  by_cases h6 : l.length ≤ 600
  case neg =>
    have E : Hid (jV l = .tuple #[.string ⟨#[]⟩, .bool false]) := jV_no (by unfold jOk; simp [h6])
    have q6 : decide ((l.length : Int) ≤ 600) = false := by simp; omega
    have q7 : decide ((600 : Int) < (l.length : Int)) = true := by simp; omega
    have q8 : (0 : Int) < (l.length : Int) := by omega
    clear h6
    go_enter Tryz.func26, Tryz.ntmps26
    go_wp2_with fail
    go_loopw [4, 5] (fun t i wr => i = .int .i64 0 ∧ t = .string ⟨#[]⟩ ∧ Below w.heap.size w wr) (fun _ _ _ => 0)
    case atStart => exact ⟨rfl, rfl, Below.refl _ _⟩
    case round =>
      obtain ⟨rfl, rfl, hb⟩ := hrel
      go_wp2_with fail
      go_ret2
      exact RetV.mk (by rw [E.out] <;> rfl) rfl hb
  have q6 : decide ((l.length : Int) ≤ 600) = true := by simp; omega
  have q7 : decide ((600 : Int) < (l.length : Int)) = false := by simp; omega
  have HS := Lib.hid (fun k => jT_len (l.take k))
  have HS2 := Lib.hid (sum_take l)
  go_enter Tryz.func26, Tryz.ntmps26
  go_wp2_with fail
  go_loopw [4, 5] (fun t i wr => ∃ (k : Nat) (T : ByteArray), k ≤ l.length ∧ i = .int .i64 k ∧ t = .string T ∧ Hid (T = jT (l.take k)) ∧ Hid (l.all wv = (l.drop k).all wv) ∧ Below w.heap.size w wr) (fun _ i _ => l.length - (intOf i).toNat)
  case atStart => exact ⟨0, _, by omega, rfl, rfl, (show _ = _ from rfl), (show _ = _ from rfl), Below.refl _ _⟩
  case round =>
    obtain ⟨k, T, hk, rfl, rfl, HT, HA, hb⟩ := hrel
    have hsz := hb.size
    have hT : T.size ≤ 1048576 := by
      have h1 := HS.out k
      have h2 := HS2.out k
      have h3 := HT.out
      rw [h3]
      have h4 : (l.take k).length ≤ l.length := by simp; omega
      omega
    by_cases hkl : k < l.length
    · obtain ⟨b, o, kind, text, rfl, hlb, hbB, HL, g0, g1, c0, c1⟩ := word_get (hv.below hb hB) hkl
      have ht : text.size ≤ 1048576 := by
        have h1 := sumBy_mem wordN (List.getElem_mem hkl)
        rw [HL.out] at h1
        have : wordN ⟨kind, text⟩ = text.size := rfl
        omega
      go_wp2_with fail
      refine (spec_WordValid kind text _ g1).mono ?_
      rintro e w1 ⟨rfl, b1⟩
      have hb1 : Below w.heap.size w w1 := hb.trans (b1.mono hb.size)
      have y1 := (b1.cell (p := ⟨b, o + k * 2 + 1, none⟩) (by show b < _; omega)).trans c1
      clear c0 c1
      cases hvb : wvB kind text
      · have E : Hid (jV l = .tuple #[.string ⟨#[]⟩, .bool false]) := jV_no (by
          have h1 := HA.out
          rw [drop_all2 hkl HL.out, show wv ⟨kind, text⟩ = false from hvb] at h1
          unfold jOk
          rw [h1]
          simp)
        clear hvb
        go_wp2_with fail
        go_ret2
        exact RetV.mk (by rw [E.out] <;> rfl) rfl hb1
      · have HA' : Hid (l.all wv = (l.drop (k + 1)).all wv) := by
          have h1 := HA.out
          rw [drop_all2 hkl HL.out, show wv ⟨kind, text⟩ = true from hvb, Bool.true_and] at h1
          exact h1
        clear hvb
        by_cases hk0 : k = 0
        · subst hk0
          have E : Hid (T ++ text = jT (l.take (0 + 1))) := by
            have h1 := jT_first hkl
            rw [HL.out] at h1
            have h2 := HT.out
            rw [List.take_zero, jT_zero] at h2
            show _ = _
            rw [h2]
            exact (show ByteArray.empty ++ text = text by simp).trans h1.symm
          go_wp2_with fail
          go_roundw
          case rel => exact ⟨0 + 1, _, by omega, by go_num, rfl, E, HA', hb1⟩
          case measure => simp [intOf]; omega
        · have q0 : 0 < k := by omega
          have q1 : (0 : Int) < (k : Int) := by omega
          have E : Hid (T ++ ⟨#[32]⟩ ++ text = jT (l.take (k + 1))) := by
            have h1 := jT_next hkl q0
            rw [HL.out, ← HT.out] at h1
            exact h1.symm
          go_wp2_with fail
          go_roundw
          case rel => exact ⟨k + 1, _, by omega, by go_num, rfl, E, HA', hb1⟩
          case measure => simp [intOf]; omega
    · obtain rfl : k = l.length := by omega
      have ET : Hid (T = jT l) := by
        have h := HT.out
        rw [List.take_length] at h
        exact h
      have EA : l.all wv = true := by
        have h := HA.out
        rw [List.drop_length] at h
        exact h
      by_cases h3 : T.size ≤ 3000
      · have q3 : decide ((3000 : Int) < (T.size : Int)) = false := by simp; omega
        have E : Hid (jV l = .tuple #[.string T, .bool true]) := by
          have := jV_yes (l := l) (by unfold jOk; rw [EA, ← ET.out]; simp [h6, h3])
          rw [← ET.out] at this
          exact this
        clear EA h3
        go_wp2_with fail
        go_ret2
        exact RetV.mk (by rw [E.out] <;> rfl) rfl hb
      · have q3 : decide ((3000 : Int) < (T.size : Int)) = true := by simp; omega
        have E : Hid (jV l = .tuple #[.string ⟨#[]⟩, .bool false]) := jV_no (by unfold jOk; rw [← ET.out]; simp [h3])
        clear EA h3
        go_wp2_with fail
        go_ret2
        exact RetV.mk (by rw [E.out] <;> rfl) rfl hb
end Go.Proofs.YtbikgakoeheahaaGreatDoor

