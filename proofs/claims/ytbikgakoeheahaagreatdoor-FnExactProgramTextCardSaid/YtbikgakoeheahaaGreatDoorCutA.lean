/-
  Several texts in one: Cut0, Cut1, Cut2, Cut4, Cut3.
-/
import Derived.Test.YtbikgakoeheahaaGreatDoorWord
import Derived.Deep.QuietTactic
import Derived.BigQuiet
import Derived.Deep.RegionHeld3
import Derived.Test.YtbikgakoeheahaaGreatDoorJoin0
import Derived.Test.YtbikgakoeheahaaGreatDoorWd
import Derived.Maps.AppendAt
import Derived.Maps.Range
namespace Go.Proofs.YtbikgakoeheahaaGreatDoor
open Go.RowKit Go.ChangeShapes Go.WideShapes Go.Deep
set_option linter.unusedSimpArgs false
set_option linter.unusedVariables false
/-- the kind of a text that begins with b, by the reference -/
def kindS (b : UInt8) (s : ByteArray) : Int := if isKey s = true then 4 else cls b
set_option maxRecDepth 100000 in
set_option maxHeartbeats 4000000 in
theorem spec_l1Word (s : ByteArray) (w : World) (hs : s.size ≤ maxLen) (hp : 0 < s.size) : Calls Tryz.prog 46 #[.string s] w (RetV (.agg #[.int .i64 (kindS s[0] s), .string s]) w) := by
  have hs' : s.size ≤ 9223372036854775807 := by unfold maxLen at hs; omega
  have hb0 : Below w.heap.size w (w.alloc (.cells #[.int .i64 0, .string ⟨#[]⟩] 45)) := (Below.refl _ _).alloc (Nat.le_refl _) _
  have R0 : Row (w.alloc (.cells #[.int .i64 0, .string ⟨#[]⟩] 45)) w.heap.size 45 #[.int .i64 0, .string ⟨#[]⟩] := Row.new w _ _
  go_enter Tryz.func46, Tryz.ntmps46
  go_wp2_with fail
  refine (spec_l1Class s[0] _).mono ?_
  rintro e w' ⟨rfl, rfl⟩
  go_wp2_with fail
  refine (spec_l1Key s _).mono ?_
  rintro e w1 ⟨rfl, b1⟩
  have hb1 : Below w.heap.size w w1 := hb0.trans (b1.mono hb0.size)
  have R1 := R0.below b1 R0.lt
  have rl := R1.lt
  have y0 : w1.cell? ⟨w.heap.size, 0, none⟩ = some (.int .i64 0) := R1.cell 0
  have y1 : w1.cell? ⟨w.heap.size, 1, none⟩ = some (.string ⟨#[]⟩) := R1.cell 1
  have f0 : w1.frozen? ⟨w.heap.size, 0, none⟩ = false := R1.frozen 0
  have f1 : w1.frozen? ⟨w.heap.size, 1, none⟩ = false := R1.frozen 1
  have HB : Hid (∀ u0 u1, Below w.heap.size w ((w1.setCell ⟨w.heap.size, 0, none⟩ u0).setCell ⟨w.heap.size, 1, none⟩ u1)) := fun u0 u1 => (hb1.setCell (Nat.le_refl _) _).setCell (Nat.le_refl _) _
  have z0 : ∀ u0, (w1.setCell ⟨w.heap.size, 0, none⟩ u0).cell? ⟨w.heap.size, 0, none⟩ = some u0 := fun u0 => (R1.set_ 0 u0).cell 0
  have z1 : ∀ u0 u1, ((w1.setCell ⟨w.heap.size, 0, none⟩ u0).setCell ⟨w.heap.size, 1, none⟩ u1).cell? ⟨w.heap.size, 1, none⟩ = some u1 := fun u0 u1 => ((R1.set_ 0 u0).set_ 1 u1).cell 1
  replace z0 := Lib.hid z0
  replace z1 := Lib.hid z1
  clear R0
  cases hk : isKey s
  · have E : Hid (kindS s[0] s = cls s[0]) := by show _ = _; unfold kindS; rw [hk]; rfl
    clear hk
    go_wp2_with fail
    refine bodyPost_ret (v := .agg #[.int .i64 (cls s[0]), .string s]) (by simp [results, Tryz.results46, go_sem, z0.out, z1.out]) rfl ?_
    exact RetV.mk (by rw [E.out]) rfl (HB.out _ _)
  · have E : Hid (kindS s[0] s = 4) := by show _ = _; unfold kindS; rw [hk]; rfl
    clear hk
    go_wp2_with fail
    refine bodyPost_ret (v := .agg #[.int .i64 4, .string s]) (by simp [results, Tryz.results46, go_sem, z0.out, z1.out]) rfl ?_
    exact RetV.mk (by rw [E.out]) rfl (HB.out _ _)
end Go.Proofs.YtbikgakoeheahaaGreatDoor

namespace Go.Proofs.YtbikgakoeheahaaGreatDoor
open Go.RowKit Go.ChangeShapes Go.WideShapes Go.Deep
set_option linter.unusedSimpArgs false
set_option linter.unusedVariables false
/-- does x go on with a word that begins with b? -/
def goes (b x : UInt8) : Bool := cls x == cls b && decide (cls b < 3)
/-- how far the bytes from i on are taken by p -/
def runF (p : UInt8 → Bool) (s : ByteArray) (i : Nat) : Nat := i + ((s.data.toList.drop i).takeWhile p).length
theorem runF_yes {p : UInt8 → Bool} {s : ByteArray} {i : Nat} (h : i < s.size) (hp : p s[i] = true) : runF p s i = runF p s (i + 1) := by
  have hl : i < s.data.toList.length := by simpa using h
  unfold runF
  rw [List.drop_eq_getElem_cons hl, List.takeWhile_cons]
  have : s.data.toList[i] = s[i] := rfl
  rw [this, hp]
  simp only [if_true, List.length_cons]
  omega
theorem runF_no {p : UInt8 → Bool} {s : ByteArray} {i : Nat} (h : i < s.size) (hp : p s[i] = false) : runF p s i = i := by
  have hl : i < s.data.toList.length := by simpa using h
  unfold runF
  rw [List.drop_eq_getElem_cons hl, List.takeWhile_cons]
  have : s.data.toList[i] = s[i] := rfl
  rw [this, hp]
  simp
theorem runF_end {p : UInt8 → Bool} {s : ByteArray} {i : Nat} (h : s.size ≤ i) : runF p s i = i := by
  unfold runF
  rw [List.drop_eq_nil_of_le (by simpa using h)]
  rfl
theorem runF_ge (p : UInt8 → Bool) (s : ByteArray) (i : Nat) : i ≤ runF p s i := Nat.le_add_right _ _
theorem runF_le {p : UInt8 → Bool} {s : ByteArray} {i : Nat} (h : i ≤ s.size) : runF p s i ≤ s.size := by
  have h1 : ((s.data.toList.drop i).takeWhile p).length ≤ (s.data.toList.drop i).length := (List.takeWhile_sublist p).length_le
  have h2 : (s.data.toList.drop i).length = s.size - i := by simp
  unfold runF
  omega
/-- the word of the bytes i .. e -/
def wordAt (s : ByteArray) (b : UInt8) (i e : Nat) : WordD := ⟨kindS b (s.extract i e), s.extract i e⟩
/-- the words of the bytes from i on -/
def cutF (s : ByteArray) : Nat → Nat → Option (List WordD)
  | 0, _ => some []
  | f + 1, i =>
    if h : i < s.size then
      if cls s[i] = 4 then cutF s f (i + 1)
      else if cls s[i] = 0 then none
      else if wv (wordAt s s[i] i (runF (goes s[i]) s (i + 1))) = true then (cutF s f (runF (goes s[i]) s (i + 1))).map (wordAt s s[i] i (runF (goes s[i]) s (i + 1)) :: ·)
      else none
    else some []
theorem cutF_end {s : ByteArray} {f i : Nat} (h : ¬ i < s.size) : cutF s f i = some [] := by
  cases f with
  | zero => rfl
  | succ f => unfold cutF; rw [dif_neg h]
theorem cutF_blank {s : ByteArray} {f i : Nat} (h : i < s.size) (h4 : cls s[i] = 4) : cutF s (f + 1) i = cutF s f (i + 1) := by
  conv => lhs; unfold cutF
  rw [dif_pos h, if_pos h4]
theorem cutF_zero {s : ByteArray} {f i : Nat} (h : i < s.size) (h0 : cls s[i] = 0) : cutF s (f + 1) i = none := by
  unfold cutF
  rw [dif_pos h, if_neg (by rw [h0]; decide), if_pos h0]
theorem cutF_bad {s : ByteArray} {f i : Nat} (h : i < s.size) (h4 : cls s[i] ≠ 4) (hw : wv (wordAt s s[i] i (runF (goes s[i]) s (i + 1))) = false) : cutF s (f + 1) i = none := by
  unfold cutF
  rw [dif_pos h, if_neg h4]
  split
  · rfl
  · rw [if_neg (by rw [hw]; decide)]
theorem cutF_word {s : ByteArray} {f i : Nat} (h : i < s.size) (h4 : cls s[i] ≠ 4) (h0 : cls s[i] ≠ 0) (hw : wv (wordAt s s[i] i (runF (goes s[i]) s (i + 1))) = true) :
    cutF s (f + 1) i = (cutF s f (runF (goes s[i]) s (i + 1))).map (wordAt s s[i] i (runF (goes s[i]) s (i + 1)) :: ·) := by
  conv => lhs; unfold cutF
  rw [dif_pos h, if_neg h4, if_neg h0, if_pos hw]
/-- what is cut; none: the text is no row of words -/
def cutR (s : ByteArray) : Option (List WordD) := cutF s (s.size + 1) 0
def cutOk (s : ByteArray) : Bool := decide (s.size ≤ 3000) && (match cutR s with | some l => decide (l.length ≤ 600) | none => false)
def cutLst (s : ByteArray) : List WordD := if cutOk s then (cutR s).getD [] else []
theorem cutOk_some {s : ByteArray} {l : List WordD} (h : cutR s = some l) (h3 : s.size ≤ 3000) (h6 : l.length ≤ 600) : cutOk s = true ∧ cutLst s = l := by
  have : cutOk s = true := by unfold cutOk; rw [h]; simp [h3, h6]
  exact ⟨this, by unfold cutLst; rw [if_pos this, h]; rfl⟩
theorem cutOk_no {s : ByteArray} (h : cutOk s = false) : cutLst s = [] := by unfold cutLst; rw [h]; rfl
theorem cutOk_none {s : ByteArray} (h : cutR s = none) : cutOk s = false := by unfold cutOk; rw [h]; simp
theorem cutOk_long {s : ByteArray} (h : 3000 < s.size) : cutOk s = false := by unfold cutOk; simp [show ¬ s.size ≤ 3000 by omega]
theorem cutOk_many {s : ByteArray} {l : List WordD} (h : cutR s = some l) (h6 : 600 < l.length) : cutOk s = false := by unfold cutOk; rw [h]; simp [show ¬ l.length ≤ 600 by omega]
theorem low_dig {b : UInt8} (h : low b = true) : isDig b = false := by
  simp only [low, isDig, decide_eq_true_eq, decide_eq_false_iff_not] at h ⊢
  omega
theorem cls_low {b : UInt8} (h : low b = true) : cls b = 1 := by unfold cls; rw [if_pos h]
theorem cls_dig {b : UInt8} (h : isDig b = true) : cls b = 2 := by
  have h1 : low b = false := by
    cases h2 : low b with
    | false => rfl
    | true => rw [low_dig h2] at h; cases h
  unfold cls
  rw [h1, if_neg (by decide), if_pos h]
theorem cls_two (b : UInt8) : (cls b == 2) = isDig b := by
  cases h : isDig b with
  | true => rw [cls_dig h]; rfl
  | false =>
    unfold cls
    rw [h]
    split <;> try rfl
    simp only [Bool.false_eq_true, if_false]
    split <;> try rfl
    split <;> rfl
theorem goes_low {b : UInt8} (h : low b = true) (x : UInt8) : goes b x = low x := by unfold goes; rw [cls_low h, cls_one]; simp
theorem goes_dig {b : UInt8} (h : isDig b = true) (x : UInt8) : goes b x = isDig x := by unfold goes; rw [cls_dig h, cls_two]; simp
end Go.Proofs.YtbikgakoeheahaaGreatDoor

namespace Go.Proofs.YtbikgakoeheahaaGreatDoor
open Go.RowKit Go.ChangeShapes Go.WideShapes Go.Deep
set_option linter.unusedSimpArgs false
set_option linter.unusedVariables false
theorem wcells_snoc (l : List WordD) (a : WordD) : wcells (l ++ [a]) = wcells l ++ [.int .i64 a.kind, .string a.text] := by simp [wcells]
theorem own_emptyW (w : World) (base : Nat) (t : TypeId) (hb : base ≤ w.heap.size) : (w.alloc (.cells #[] t)).ownsRow base t 2 (.slice (some ⟨w.heap.size, 0, none⟩) 0 0) ([] : List WordD).length (wcells []) :=
  ⟨rfl, Or.inr ⟨_, 0, #[], rfl, hb, Row.new w _ _, by simp, by simp [maxLen], rfl, rfl⟩⟩
theorem own_belowW {w w' : World} {base n size B : Nat} {e : TypeId} {v : Value} {xs : List Value} (h : w.ownsRow base e size v n xs) (hb : Below B w w') (hB : w.heap.size ≤ B) : w'.ownsRow base e size v n xs := by
  refine ⟨h.1, ?_⟩
  rcases h.2 with h1 | ⟨g, cap, cur, h1, h2, h3, h4⟩
  · exact Or.inl h1
  · have : g < w.heap.size := (Array.getElem?_eq_some_iff.1 h3).1
    exact Or.inr ⟨g, cap, cur, h1, h2, (hb.block g (by omega)).trans h3, h4⟩
theorem own_geW {w : World} {base n size : Nat} {e : TypeId} {v : Value} {xs : List Value} (h : w.ownsRow base e size v n xs) {k : Nat} (hk : v.ownBlock = some k) : base ≤ k := (h.lt k hk).1
theorem cls_range (b : UInt8) : 0 ≤ cls b ∧ cls b ≤ 4 := by
  unfold cls
  split
  · omega
  · split
    · omega
    · split
      · omega
      · split <;> omega
theorem kindS_I64 (b : UInt8) (s : ByteArray) : I64 (kindS b s) := by
  have := cls_range b
  unfold kindS I64
  split <;> omega
/-- what a cut answers -/
def CutP (s : ByteArray) (w : World) (e : Ending) (w' : World) : Prop :=
  ∃ v : Value, e = .returned (.tuple #[v, .bool (cutOk s)]) ∧ (∀ m, Sl m (wordS m) w' w.heap.size w'.heap.size (cutLst s) v) ∧ Below w.heap.size w w'
theorem CutP.no {s : ByteArray} {w w' : World} {e : Ending} {v : Value} (h : cutOk s = false) (he : e = .returned (.tuple #[v, .bool false])) (hv : v = .slice none 0 0 ∨ ∃ g, v = .slice (some ⟨g, 0, none⟩) 0 0) (hb : Below w.heap.size w w') : CutP s w e w' := by
  refine ⟨v, by rw [h]; exact he, fun m => ?_, hb⟩
  rw [cutOk_no h]
  rcases hv with rfl | ⟨g, rfl⟩
  · exact Sl.nil_ _ _ _ _ _
  · exact ⟨_, 0, rfl, Nat.le_refl _, by simp [maxLen], fun h => absurd rfl h⟩
end Go.Proofs.YtbikgakoeheahaaGreatDoor

namespace Go.Proofs.YtbikgakoeheahaaGreatDoor
open Go.RowKit Go.ChangeShapes Go.WideShapes Go.Deep
set_option linter.unusedSimpArgs false
set_option linter.unusedVariables false
theorem ba_loop (bs : ByteArray) : ∀ (n i : Nat) (r : List UInt8), bs.size - i = n → ByteArray.toList.loop bs i r = r.reverse ++ bs.data.toList.drop i := by
  intro n
  induction n with
  | zero =>
    intro i r h
    unfold ByteArray.toList.loop
    rw [if_neg (by omega), List.drop_eq_nil_of_le (by show bs.data.toList.length ≤ i; simp; omega), List.append_nil]
  | succ n ih =>
    intro i r h
    have hi : i < bs.data.toList.length := by show i < _; simp; omega
    unfold ByteArray.toList.loop
    rw [if_pos (by omega), ih (i + 1) _ (by omega), List.drop_eq_getElem_cons hi]
    have e : bs.get! i = bs.data.toList[i] := by
      have hi2 : i < bs.data.size := by simpa using hi
      show bs.data[i]! = _
      rw [getElem!_pos bs.data i hi2]
      simp
    rw [e]
    simp
theorem ba_toList (bs : ByteArray) : bs.toList = bs.data.toList := (ba_loop bs _ 0 [] rfl).trans (by simp)
theorem key_low {b : UInt8} {t : ByteArray} (hb : t.data.toList.head? = some b) (hk : isKey t = true) : low b = true := by
  unfold isKey at hk
  obtain ⟨k, hm, he⟩ := List.any_eq_true.1 hk
  have h1 : t.toList = k.toList := by simpa using he
  have h4 : ∀ k ∈ keysL, (k.toList.head?.map low) = some true := by decide +kernel
  have h5 := h4 k hm
  rw [← h1] at h5
  have h6 : t.toList = t.data.toList := ba_toList t
  rw [h6, hb] at h5
  exact Option.some.inj h5
theorem key_no {b : UInt8} {t : ByteArray} (hb : t.data.toList.head? = some b) (h : low b = false) : isKey t = false := by
  cases hk : isKey t with
  | false => rfl
  | true =>
    have := key_low hb hk
    rw [h] at this
    cases this
end Go.Proofs.YtbikgakoeheahaaGreatDoor

namespace Go.Proofs.YtbikgakoeheahaaGreatDoor
open Go.RowKit Go.ChangeShapes Go.WideShapes Go.Deep
set_option linter.unusedSimpArgs false
set_option linter.unusedVariables false
theorem runF_stop {p : UInt8 → Bool} {s : ByteArray} {i : Nat} (h : ∀ x, p x = false) : runF p s i = i := by
  unfold runF
  cases hl : s.data.toList.drop i with
  | nil => rfl
  | cons a r => simp [List.takeWhile_cons, h a]
theorem spec_l1Word_at (s : ByteArray) (b : UInt8) (k n : Nat) (w : World) (hs : s.size ≤ maxLen) (hk : k < n) (hn : n ≤ s.size) (hb : s[k] = b) : Calls Tryz.prog 46 #[.string (s.extract k n)] w (RetV (.agg #[.int .i64 (kindS b (s.extract k n)), .string (s.extract k n)]) w) := by
  have hp : 0 < (s.extract k n).size := by simp; omega
  have h := spec_l1Word (s.extract k n) w (by simp; omega) hp
  have e : (s.extract k n)[0] = b := by
    have hks : k < s.data.size := Nat.lt_of_lt_of_le hk hn
    rw [← hb]
    show (s.extract k n).data[0]'hp = s.data[k]'hks
    simp [ByteArray.data_extract]
  rw [e] at h
  exact h
set_option maxRecDepth 100000 in
set_option maxHeartbeats 4000000 in
theorem spec_CutWords (s : ByteArray) (w : World) (hs : s.size ≤ maxLen) : Calls Tryz.prog 25 #[.string s] w (CutP s w) := by
  have hs' : s.size ≤ 9223372036854775807 := by unfold maxLen at hs; omega
  by_cases h3 : s.size ≤ 3000
  case neg =>
    have E : Hid (cutOk s = false) := cutOk_long (by omega)
    have q3 : decide ((s.size : Int) ≤ 3000) = false := by simp; omega
    have q4 : decide ((3000 : Int) < (s.size : Int)) = true := by simp; omega
    have q5 : (0 : Int) < (s.size : Int) := by omega
    clear h3
    go_enter Tryz.func25, Tryz.ntmps25
    go_wp2_with fail
    go_loopw [4, 5] (fun v i wr => i = .int .i64 0 ∧ v = .slice (some ⟨w.heap.size, 0, none⟩) 0 0 ∧ Below w.heap.size w wr) (fun _ _ _ => 0)
    case atStart => exact ⟨rfl, rfl, (Below.refl _ _).alloc (Nat.le_refl _) _⟩
    case round =>
      obtain ⟨rfl, rfl, hb⟩ := hrel
      go_wp2_with fail
      go_ret2
      exact CutP.no E.out rfl (Or.inr ⟨_, rfl⟩) (hb.alloc hb.size _)
  have q3 : decide ((s.size : Int) ≤ 3000) = true := by simp; omega
  have q4 : decide ((3000 : Int) < (s.size : Int)) = false := by simp; omega
  obtain ⟨i0, hi, hz0, hz1, hz2⟩ := info_parts Tryz.info_Word
  go_enter Tryz.func25, Tryz.ntmps25
  go_wp2_with fail
  go_loopw [4, 5] (fun v i wr => ∃ (k f : Nat) (l : List WordD), k ≤ s.size ∧ i = .int .i64 k ∧ s.size - k < f ∧ wr.ownsRow w.heap.size 45 2 v l.length (wcells l) ∧ Hid (∀ a ∈ l, I64 a.kind ∧ a.text.size ≤ maxLen) ∧ Hid (cutR s = (cutF s f k).map (l ++ ·)) ∧ l.length ≤ k ∧ Below w.heap.size w wr) (fun _ i _ => s.size - (intOf i).toNat)
  case atStart => exact ⟨0, s.size + 1, [], by omega, rfl, by omega, own_emptyW w _ _ (Nat.le_refl _), (fun a h => by cases h), (show _ = _ by simp [cutR]), Nat.le_refl _, (Below.refl _ _).alloc (Nat.le_refl _) _⟩
  case round =>
    obtain ⟨k, f, l, hk, rfl, hf, own, HI, HF, hlk, hb⟩ := hrel
    have hsz := hb.size
    by_cases hks : k < s.size
    · obtain ⟨f, rfl⟩ : ∃ f', f = f' + 1 := ⟨f - 1, by omega⟩
      go_wp2_with fail
      refine (spec_l1Class s[k] _).mono ?_
      rintro e w' ⟨rfl, rfl⟩
      obtain ⟨b, hbk⟩ : ∃ b, s[k] = b := ⟨_, rfl⟩
      have HS : Hid (s[k] = b) := hbk
      rw [hbk]
      clear hbk
      obtain ⟨c, hc⟩ : ∃ c, cls b = c := ⟨_, rfl⟩
      have HB : Hid (cls b = c) := hc
      rw [hc]
      clear hc
      go_wp2_with fail
      go_loopw [7] (fun j w' => ∃ n : Nat, k + 1 ≤ n ∧ n ≤ s.size ∧ j = .int .i64 n ∧ w' = wr ∧ Hid (runF (goes b) s (k + 1) = runF (goes b) s n)) (fun j _ => s.size - (intOf j).toNat)
      case atStart => exact ⟨k + 1, Nat.le_refl _, by omega, by go_num, rfl, (show _ = _ from rfl)⟩
      case round =>
        obtain ⟨n, hn0, hn1, rfl, rfl, HQ⟩ := hrel
        by_cases hns : n < s.size
        · go_wp2_with fail
          refine (spec_l1Class s[n] _).mono ?_
          rintro e w' ⟨rfl, rfl⟩
          obtain ⟨x, hx⟩ : ∃ x, s[n] = x := ⟨_, rfl⟩
          have HY : Hid (s[n] = x) := hx
          rw [hx]
          clear hx
          obtain ⟨d, hd⟩ : ∃ d, cls x = d := ⟨_, rfl⟩
          have HD : Hid (cls x = d) := hd
          rw [hd]
          clear hd
          by_cases e1 : d = c
          · have q1 : (d == c) = true := by simpa using e1
            by_cases e2 : c < 3
            · have HX : Hid (runF (goes b) s n = runF (goes b) s (n + 1)) := runF_yes hns (by unfold goes; rw [HY.out, HD.out, HB.out, q1]; simp [e2])
              have HQ' : Hid (runF (goes b) s (k + 1) = runF (goes b) s (n + 1)) := HQ.out.trans HX.out
              clear e1
              go_wp2_with fail
              go_roundw
              case rel => exact ⟨n + 1, by omega, by omega, by go_num, (by first | rfl | trivial), HQ'⟩
              case measure => simp [intOf]; omega
            · have q2 : decide (c < 3) = false := by simpa using e2
              have HX : Hid (runF (goes b) s n = n) := runF_no hns (by unfold goes; rw [HY.out, HD.out, HB.out]; simp [e2])
              have HE : Hid (runF (goes b) s (k + 1) = n) := by
                have h1 := HQ.out
                rw [HX.out] at h1
                exact h1
              clear HX HQ
              by_cases k4 : c = 4
              case pos =>
                subst k4
                have HN : Hid (n = k + 1) := by
                  have h1 := HE.out
                  rw [runF_stop (fun x => by unfold goes; rw [HB.out]; simp)] at h1
                  exact h1.symm
                have HF' : Hid (cutR s = (cutF s f (k + 1)).map (l ++ ·)) := by
                  have h1 := HF.out
                  rw [cutF_blank hks (by rw [← HS.out] at HB; rw [HB.out])] at h1
                  exact h1
                go_wp2_with fail
                go_roundw
                case rel => exact ⟨k + 1, f, l, by omega, by rw [HN.out] <;> go_num, by omega, own, HI, HF', by omega, hb⟩
                case measure => have := HN.out; simp [intOf]; omega
              have n4 : (c == 4) = false := by simpa using k4
              have n5 : (c != 4) = true := by simpa using k4
              have k0 : c ≠ 0 := by omega
              have n0 : (c == 0) = false := by simpa using k0
              have HK4 := Lib.hid k4
              have HK0 := Lib.hid k0
              clear k4 k0
              have hkn : k < n := by omega
              have hkn' : (k : Int) ≤ (n : Int) := by omega
              have HW := Lib.hid (fun w => spec_l1Word_at s b k n w hs hkn hn1 HS.out)
              have HT : Hid ((s.extract k n).size ≤ maxLen) := (show _ ≤ _ by simp; omega)
              go_wp2_with fail
              refine (HW.out _).mono ?_
              rintro e w1 ⟨rfl, b1⟩
              have hb1 := hb.trans (b1.mono hsz)
              go_wp2_with fail
              refine (spec_WordValid _ _ _ HT.out).mono ?_
              rintro e w2 ⟨rfl, b2⟩
              have hb2 := hb1.trans (b2.mono hb1.size)
              cases hv : wvB (kindS b (s.extract k n)) (s.extract k n)
              case false =>
                have E : Hid (cutOk s = false) := cutOk_none (by
                  rw [HF.out, cutF_bad hks (by rw [HS.out, HB.out]; exact HK4.out) (by rw [HS.out, HE.out]; exact hv)]
                  rfl)
                clear hv
                go_wp2_with fail
                go_ret2
                exact CutP.no E.out rfl (Or.inr ⟨_, rfl⟩) (hb2.alloc hb2.size _)
              have HF' : Hid (cutR s = (cutF s f n).map ((l ++ [wordAt s b k n]) ++ ·)) := by
                have h1 := HF.out
                rw [cutF_word hks (by rw [HS.out, HB.out]; exact HK4.out) (by rw [HS.out, HB.out]; exact HK0.out) (by rw [HS.out, HE.out]; exact hv), HS.out, HE.out] at h1
                show _ = _
                rw [h1, Option.map_map]
                congr 1
                funext r
                simp
              have HI' : Hid (∀ a ∈ l ++ [wordAt s b k n], I64 a.kind ∧ a.text.size ≤ maxLen) := by
                intro a ha
                rcases List.mem_append.1 ha with h | h
                · exact HI.out a h
                · obtain rfl := List.mem_singleton.1 h
                  exact ⟨kindS_I64 _ _, HT.out⟩
              clear hv
              go_wp2_with fail
              refine (HW.out _).mono ?_
              rintro e w3 ⟨rfl, b3⟩
              have hb3 := hb2.trans (b3.mono hb2.size)
              have b13 := (b1.trans (b2.mono b1.size)).trans (b3.mono (Nat.le_trans b1.size b2.size))
              have own3 := own_belowW own b13 (Nat.le_refl _)
              have sz3 := hb3.size
              go_wp2_with (at_builtin; refine wpList_append_own_at _ rfl _ _ 39 rfl w.heap.size 45 i0 (.agg #[.int .i64 0, .string ⟨#[]⟩]) 2 24 Tryz.underlying39 hi hz0 hz1 hz2 rfl (by decide) _ _ _ rfl (own3.alloc _) ⟨w3.heap.size, 0, none⟩ 1 1 [.int .i64 (kindS b (s.extract k n)), .string (s.extract k n)] rfl rfl ?c1 ?c2 ?c3 ?c4 ?c5 ?_)
              case c1 => exact cells_row_new w3 [.int .i64 (kindS b (s.extract k n)), .string (s.extract k n)] _
              case c2 => first | rfl | (intro u hu; simp at hu; rcases hu with rfl | rfl <;> rfl)
              case c3 => unfold maxLen; omega
              case c4 => omega
              case c5 => simp; omega
              intro v4 w4 own4 hgrow _ hat
              have hb4 : Below w.heap.size w w4 := (hb3.alloc (by omega) _).grown hgrow (by simp; omega) (fun r hr => own_geW own3 hr)
              have own4' : w4.ownsRow w.heap.size 45 2 v4 (l ++ [wordAt s b k n]).length (wcells (l ++ [wordAt s b k n])) := by
                rw [List.length_append, wcells_snoc]
                exact own4
              clear own4 hgrow hat own3 own
              go_wp2_with fail
              go_roundw
              case rel => exact ⟨n, f, l ++ [wordAt s b k n], by omega, rfl, by omega, own4', HI', HF', by simp; omega, hb4⟩
              case measure => simp [intOf]; omega
          · have q1 : (d == c) = false := by simpa using e1
            have HX : Hid (runF (goes b) s n = n) := runF_no hns (by unfold goes; rw [HY.out, HD.out, HB.out, q1]; rfl)
            clear e1
            have HE : Hid (runF (goes b) s (k + 1) = n) := by
              have h1 := HQ.out
              rw [HX.out] at h1
              exact h1
            clear HX HQ
            by_cases k4 : c = 4
            case pos =>
              subst k4
              have HN : Hid (n = k + 1) := by
                have h1 := HE.out
                rw [runF_stop (fun x => by unfold goes; rw [HB.out]; simp)] at h1
                exact h1.symm
              have HF' : Hid (cutR s = (cutF s f (k + 1)).map (l ++ ·)) := by
                have h1 := HF.out
                rw [cutF_blank hks (by rw [← HS.out] at HB; rw [HB.out])] at h1
                exact h1
              go_wp2_with fail
              go_roundw
              case rel => exact ⟨k + 1, f, l, by omega, by rw [HN.out] <;> go_num, by omega, own, HI, HF', by omega, hb⟩
              case measure => have := HN.out; simp [intOf]; omega
            have n4 : (c == 4) = false := by simpa using k4
            have n5 : (c != 4) = true := by simpa using k4
            by_cases k0 : c = 0
            case pos =>
              subst k0
              have E : Hid (cutOk s = false) := cutOk_none (by
                rw [HF.out, cutF_zero hks (by rw [← HS.out] at HB; rw [HB.out])]
                rfl)
              clear k4 n4 n5
              go_wp2_with fail
              go_ret2
              exact CutP.no E.out rfl (Or.inr ⟨_, rfl⟩) (hb.alloc hb.size _)
            have n0 : (c == 0) = false := by simpa using k0
            have HK4 := Lib.hid k4
            have HK0 := Lib.hid k0
            clear k4 k0
            have hkn : k < n := by omega
            have hkn' : (k : Int) ≤ (n : Int) := by omega
            have HW := Lib.hid (fun w => spec_l1Word_at s b k n w hs hkn hn1 HS.out)
            have HT : Hid ((s.extract k n).size ≤ maxLen) := (show _ ≤ _ by simp; omega)
            go_wp2_with fail
            refine (HW.out _).mono ?_
            rintro e w1 ⟨rfl, b1⟩
            have hb1 := hb.trans (b1.mono hsz)
            go_wp2_with fail
            refine (spec_WordValid _ _ _ HT.out).mono ?_
            rintro e w2 ⟨rfl, b2⟩
            have hb2 := hb1.trans (b2.mono hb1.size)
            cases hv : wvB (kindS b (s.extract k n)) (s.extract k n)
            case false =>
              have E : Hid (cutOk s = false) := cutOk_none (by
                rw [HF.out, cutF_bad hks (by rw [HS.out, HB.out]; exact HK4.out) (by rw [HS.out, HE.out]; exact hv)]
                rfl)
              clear hv
              go_wp2_with fail
              go_ret2
              exact CutP.no E.out rfl (Or.inr ⟨_, rfl⟩) (hb2.alloc hb2.size _)
            have HF' : Hid (cutR s = (cutF s f n).map ((l ++ [wordAt s b k n]) ++ ·)) := by
              have h1 := HF.out
              rw [cutF_word hks (by rw [HS.out, HB.out]; exact HK4.out) (by rw [HS.out, HB.out]; exact HK0.out) (by rw [HS.out, HE.out]; exact hv), HS.out, HE.out] at h1
              show _ = _
              rw [h1, Option.map_map]
              congr 1
              funext r
              simp
            have HI' : Hid (∀ a ∈ l ++ [wordAt s b k n], I64 a.kind ∧ a.text.size ≤ maxLen) := by
              intro a ha
              rcases List.mem_append.1 ha with h | h
              · exact HI.out a h
              · obtain rfl := List.mem_singleton.1 h
                exact ⟨kindS_I64 _ _, HT.out⟩
            clear hv
            go_wp2_with fail
            refine (HW.out _).mono ?_
            rintro e w3 ⟨rfl, b3⟩
            have hb3 := hb2.trans (b3.mono hb2.size)
            have b13 := (b1.trans (b2.mono b1.size)).trans (b3.mono (Nat.le_trans b1.size b2.size))
            have own3 := own_belowW own b13 (Nat.le_refl _)
            have sz3 := hb3.size
            go_wp2_with (at_builtin; refine wpList_append_own_at _ rfl _ _ 39 rfl w.heap.size 45 i0 (.agg #[.int .i64 0, .string ⟨#[]⟩]) 2 24 Tryz.underlying39 hi hz0 hz1 hz2 rfl (by decide) _ _ _ rfl (own3.alloc _) ⟨w3.heap.size, 0, none⟩ 1 1 [.int .i64 (kindS b (s.extract k n)), .string (s.extract k n)] rfl rfl ?c1 ?c2 ?c3 ?c4 ?c5 ?_)
            case c1 => exact cells_row_new w3 [.int .i64 (kindS b (s.extract k n)), .string (s.extract k n)] _
            case c2 => first | rfl | (intro u hu; simp at hu; rcases hu with rfl | rfl <;> rfl)
            case c3 => unfold maxLen; omega
            case c4 => omega
            case c5 => simp; omega
            intro v4 w4 own4 hgrow _ hat
            have hb4 : Below w.heap.size w w4 := (hb3.alloc (by omega) _).grown hgrow (by simp; omega) (fun r hr => own_geW own3 hr)
            have own4' : w4.ownsRow w.heap.size 45 2 v4 (l ++ [wordAt s b k n]).length (wcells (l ++ [wordAt s b k n])) := by
              rw [List.length_append, wcells_snoc]
              exact own4
            clear own4 hgrow hat own3 own
            go_wp2_with fail
            go_roundw
            case rel => exact ⟨n, f, l ++ [wordAt s b k n], by omega, rfl, by omega, own4', HI', HF', by simp; omega, hb4⟩
            case measure => simp [intOf]; omega
        · have HX : Hid (runF (goes b) s n = n) := runF_end (by omega)
          have HE : Hid (runF (goes b) s (k + 1) = n) := by
            have h1 := HQ.out
            rw [HX.out] at h1
            exact h1
          clear HX HQ
          by_cases k4 : c = 4
          case pos =>
            subst k4
            have HN : Hid (n = k + 1) := by
              have h1 := HE.out
              rw [runF_stop (fun x => by unfold goes; rw [HB.out]; simp)] at h1
              exact h1.symm
            have HF' : Hid (cutR s = (cutF s f (k + 1)).map (l ++ ·)) := by
              have h1 := HF.out
              rw [cutF_blank hks (by rw [← HS.out] at HB; rw [HB.out])] at h1
              exact h1
            go_wp2_with fail
            go_roundw
            case rel => exact ⟨k + 1, f, l, by omega, by rw [HN.out] <;> go_num, by omega, own, HI, HF', by omega, hb⟩
            case measure => have := HN.out; simp [intOf]; omega
          have n4 : (c == 4) = false := by simpa using k4
          have n5 : (c != 4) = true := by simpa using k4
          by_cases k0 : c = 0
          case pos =>
            subst k0
            have E : Hid (cutOk s = false) := cutOk_none (by
              rw [HF.out, cutF_zero hks (by rw [← HS.out] at HB; rw [HB.out])]
              rfl)
            clear k4 n4 n5
            go_wp2_with fail
            go_ret2
            exact CutP.no E.out rfl (Or.inr ⟨_, rfl⟩) (hb.alloc hb.size _)
          have n0 : (c == 0) = false := by simpa using k0
          have HK4 := Lib.hid k4
          have HK0 := Lib.hid k0
          clear k4 k0
          have hkn : k < n := by omega
          have hkn' : (k : Int) ≤ (n : Int) := by omega
          have HW := Lib.hid (fun w => spec_l1Word_at s b k n w hs hkn hn1 HS.out)
          have HT : Hid ((s.extract k n).size ≤ maxLen) := (show _ ≤ _ by simp; omega)
          go_wp2_with fail
          refine (HW.out _).mono ?_
          rintro e w1 ⟨rfl, b1⟩
          have hb1 := hb.trans (b1.mono hsz)
          go_wp2_with fail
          refine (spec_WordValid _ _ _ HT.out).mono ?_
          rintro e w2 ⟨rfl, b2⟩
          have hb2 := hb1.trans (b2.mono hb1.size)
          cases hv : wvB (kindS b (s.extract k n)) (s.extract k n)
          case false =>
            have E : Hid (cutOk s = false) := cutOk_none (by
              rw [HF.out, cutF_bad hks (by rw [HS.out, HB.out]; exact HK4.out) (by rw [HS.out, HE.out]; exact hv)]
              rfl)
            clear hv
            go_wp2_with fail
            go_ret2
            exact CutP.no E.out rfl (Or.inr ⟨_, rfl⟩) (hb2.alloc hb2.size _)
          have HF' : Hid (cutR s = (cutF s f n).map ((l ++ [wordAt s b k n]) ++ ·)) := by
            have h1 := HF.out
            rw [cutF_word hks (by rw [HS.out, HB.out]; exact HK4.out) (by rw [HS.out, HB.out]; exact HK0.out) (by rw [HS.out, HE.out]; exact hv), HS.out, HE.out] at h1
            show _ = _
            rw [h1, Option.map_map]
            congr 1
            funext r
            simp
          have HI' : Hid (∀ a ∈ l ++ [wordAt s b k n], I64 a.kind ∧ a.text.size ≤ maxLen) := by
            intro a ha
            rcases List.mem_append.1 ha with h | h
            · exact HI.out a h
            · obtain rfl := List.mem_singleton.1 h
              exact ⟨kindS_I64 _ _, HT.out⟩
          clear hv
          go_wp2_with fail
          refine (HW.out _).mono ?_
          rintro e w3 ⟨rfl, b3⟩
          have hb3 := hb2.trans (b3.mono hb2.size)
          have b13 := (b1.trans (b2.mono b1.size)).trans (b3.mono (Nat.le_trans b1.size b2.size))
          have own3 := own_belowW own b13 (Nat.le_refl _)
          have sz3 := hb3.size
          go_wp2_with (at_builtin; refine wpList_append_own_at _ rfl _ _ 39 rfl w.heap.size 45 i0 (.agg #[.int .i64 0, .string ⟨#[]⟩]) 2 24 Tryz.underlying39 hi hz0 hz1 hz2 rfl (by decide) _ _ _ rfl (own3.alloc _) ⟨w3.heap.size, 0, none⟩ 1 1 [.int .i64 (kindS b (s.extract k n)), .string (s.extract k n)] rfl rfl ?c1 ?c2 ?c3 ?c4 ?c5 ?_)
          case c1 => exact cells_row_new w3 [.int .i64 (kindS b (s.extract k n)), .string (s.extract k n)] _
          case c2 => first | rfl | (intro u hu; simp at hu; rcases hu with rfl | rfl <;> rfl)
          case c3 => unfold maxLen; omega
          case c4 => omega
          case c5 => simp; omega
          intro v4 w4 own4 hgrow _ hat
          have hb4 : Below w.heap.size w w4 := (hb3.alloc (by omega) _).grown hgrow (by simp; omega) (fun r hr => own_geW own3 hr)
          have own4' : w4.ownsRow w.heap.size 45 2 v4 (l ++ [wordAt s b k n]).length (wcells (l ++ [wordAt s b k n])) := by
            rw [List.length_append, wcells_snoc]
            exact own4
          clear own4 hgrow hat own3 own
          go_wp2_with fail
          go_roundw
          case rel => exact ⟨n, f, l ++ [wordAt s b k n], by omega, rfl, by omega, own4', HI', HF', by simp; omega, hb4⟩
          case measure => simp [intOf]; omega
    · obtain rfl : k = s.size := by omega
      have EL : Hid (cutR s = some l) := by
        have h := HF.out
        rw [cutF_end (by omega)] at h
        show _ = _
        rw [h]
        simp
      have fin := fun m => Sl.of_ownW own HI.out (Nat.le_refl _) m
      obtain ⟨A', p', hv', _, _⟩ := (fin false).form
      subst hv'
      by_cases h6 : l.length ≤ 600
      · have E1 : Hid (cutOk s = true) := (cutOk_some EL.out h3 h6).1
        have E2 : Hid (cutLst s = l) := (cutOk_some EL.out h3 h6).2
        have q6 : decide ((600 : Int) < (l.length : Int)) = false := by simp; omega
        go_wp2_with fail
        go_ret2
        exact ⟨_, by rw [E1.out] <;> rfl, fun m => by rw [E2.out]; exact fin m, hb⟩
      · have E : Hid (cutOk s = false) := cutOk_many EL.out (by omega)
        have q6 : decide ((600 : Int) < (l.length : Int)) = true := by simp; omega
        go_wp2_with fail
        go_ret2
        exact CutP.no E.out rfl (Or.inr ⟨_, rfl⟩) (hb.alloc hb.size _)
end Go.Proofs.YtbikgakoeheahaaGreatDoor
