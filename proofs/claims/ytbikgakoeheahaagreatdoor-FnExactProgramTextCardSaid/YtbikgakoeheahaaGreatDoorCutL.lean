/-
  Words cut from a list of bytes, and the plain laws of cutting: words joined are cut again, blanks change nothing, two texts with a blank between. No condition.
-/
import Derived.Test.YtbikgakoeheahaaGreatDoorCutA
import Derived.Test.YtbikgakoeheahaaGreatDoorPlain
namespace Go.Proofs.YtbikgakoeheahaaGreatDoor
open Go.RowKit Go.ChangeShapes Go.WideShapes Go.Deep
set_option linter.unusedSimpArgs false
set_option linter.unusedVariables false
/-- the word of the bytes b :: t -/
def mkW (b : UInt8) (t : List UInt8) : WordD := ⟨kindS b ⟨(b :: t).toArray⟩, ⟨(b :: t).toArray⟩⟩
theorem dw_len (p : UInt8 → Bool) (l : List UInt8) : (l.dropWhile p).length ≤ l.length := (List.dropWhile_sublist p).length_le
/-- the words of a list of bytes -/
def cutB : List UInt8 → Option (List WordD)
  | [] => some []
  | b :: r =>
    if cls b = 4 then cutB r
    else if cls b = 0 then none
    else if wv (mkW b (r.takeWhile (goes b))) = true then (cutB (r.dropWhile (goes b))).map (mkW b (r.takeWhile (goes b)) :: ·)
    else none
termination_by l => l.length
decreasing_by
  · simp
  · have := dw_len (goes b) r
    simp only [List.length_cons]
    omega
theorem cutB_nil : cutB [] = some [] := by rw [cutB]
theorem cutB_blank {b : UInt8} (r : List UInt8) (h : cls b = 4) : cutB (b :: r) = cutB r := by rw [cutB, if_pos h]
theorem cutB_zero {b : UInt8} (r : List UInt8) (h : cls b = 0) : cutB (b :: r) = none := by rw [cutB, if_neg (by rw [h]; decide), if_pos h]
theorem cutB_bad {b : UInt8} {r : List UInt8} (h4 : cls b ≠ 4) (h : wv (mkW b (r.takeWhile (goes b))) = false) : cutB (b :: r) = none := by
  rw [cutB, if_neg h4]
  split
  · rfl
  · rw [if_neg (by rw [h]; decide)]
theorem cutB_word {b : UInt8} {r : List UInt8} (h4 : cls b ≠ 4) (h0 : cls b ≠ 0) (h : wv (mkW b (r.takeWhile (goes b))) = true) : cutB (b :: r) = (cutB (r.dropWhile (goes b))).map (mkW b (r.takeWhile (goes b)) :: ·) := by
  rw [cutB, if_neg h4, if_neg h0, if_pos h]
theorem drop_tw (p : UInt8 → Bool) : ∀ l : List UInt8, l.drop (l.takeWhile p).length = l.dropWhile p
  | [] => rfl
  | a :: r => by
    cases h : p a with
    | true => simp [List.takeWhile_cons, List.dropWhile_cons, h, drop_tw p r]
    | false => simp [List.takeWhile_cons, List.dropWhile_cons, h]
theorem take_tw (p : UInt8 → Bool) : ∀ l : List UInt8, l.take (l.takeWhile p).length = l.takeWhile p
  | [] => rfl
  | a :: r => by
    cases h : p a with
    | true => simp [List.takeWhile_cons, h, take_tw p r]
    | false => simp [List.takeWhile_cons, h]
theorem word_same {s : ByteArray} {i : Nat} (h : i < s.size) (b : UInt8) (hb : s[i] = b) : wordAt s b i (runF (goes b) s (i + 1)) = mkW b ((s.data.toList.drop (i + 1)).takeWhile (goes b)) := by
  have hl : i < s.data.toList.length := by simpa using h
  have e : s.data.toList.drop i = s[i] :: s.data.toList.drop (i + 1) := List.drop_eq_getElem_cons hl
  have ht : s.extract i (runF (goes b) s (i + 1)) = ⟨(b :: (s.data.toList.drop (i + 1)).takeWhile (goes b)).toArray⟩ := by
    refine ba_of ?_
    rw [ByteArray.data_extract, Array.toList_extract, List.extract_eq_take_drop, e, hb]
    unfold runF
    rw [show i + 1 + ((s.data.toList.drop (i + 1)).takeWhile (goes b)).length - i = ((s.data.toList.drop (i + 1)).takeWhile (goes b)).length + 1 by omega, List.take_succ_cons, take_tw]
  unfold wordAt mkW
  rw [ht]
theorem cutF_cutB (s : ByteArray) : ∀ (f i : Nat), i ≤ s.size → s.size - i < f → cutF s f i = cutB (s.data.toList.drop i) := by
  intro f
  induction f with
  | zero => intro i _ h; omega
  | succ f ih =>
    intro i hi hf
    by_cases hk : i < s.size
    · have hl : i < s.data.toList.length := by simpa using hk
      have e : s.data.toList.drop i = s[i] :: s.data.toList.drop (i + 1) := List.drop_eq_getElem_cons hl
      have hw := word_same hk s[i] rfl
      rw [e]
      by_cases h4 : cls s[i] = 4
      · rw [cutF_blank hk h4, cutB_blank _ h4, ih _ (by omega) (by omega)]
      · by_cases h0 : cls s[i] = 0
        · rw [cutF_zero hk h0, cutB_zero _ h0]
        · cases hv : wv (wordAt s s[i] i (runF (goes s[i]) s (i + 1))) with
          | false =>
            rw [cutF_bad hk h4 hv]
            rw [hw] at hv
            rw [cutB_bad h4 hv]
          | true =>
            have g1 := runF_ge (goes s[i]) s (i + 1)
            have g2 := runF_le (p := goes s[i]) (s := s) (i := i + 1) (by omega)
            rw [cutF_word hk h4 h0 hv, hw]
            rw [hw] at hv
            rw [cutB_word h4 h0 hv, ih _ g2 (by omega)]
            congr 2
            unfold runF
            rw [← List.drop_drop, drop_tw]
    · rw [cutF_end hk, List.drop_eq_nil_of_le (by simpa using Nat.le_of_not_lt hk), cutB_nil]
theorem cutR_cutB (s : ByteArray) : cutR s = cutB s.data.toList := by
  unfold cutR
  rw [cutF_cutB s _ 0 (Nat.zero_le _) (by omega)]
  rfl
theorem goes_not {b z : UInt8} (h : cls z ≠ cls b ∨ 3 ≤ cls b) : goes b z = false := by
  unfold goes
  rcases h with h | h
  · have : (cls z == cls b) = false := by simpa using h
    rw [this]
    rfl
  · have : decide (cls b < 3) = false := by simp; omega
    rw [this, Bool.and_false]
/-- the form of a valid word: its bytes stand together -/
theorem valid_form {a : WordD} (h : wv a = true) : ∃ b t, a.text.data.toList = b :: t ∧ cls b ≠ 0 ∧ cls b ≠ 4 ∧ (∀ x ∈ t, goes b x = true) ∧ a.kind = kindS b a.text ∧ (a.kind = 3 ↔ cls b = 3) := by
  obtain ⟨kind, s⟩ := a
  have hlow : ∀ {l : List UInt8} {b : UInt8} {t : List UInt8}, l.all low = true → l = b :: t → cls b = 1 ∧ ∀ x ∈ t, goes b x = true := by
    intro l b t hl e
    subst e
    rw [List.all_cons, Bool.and_eq_true] at hl
    refine ⟨cls_low hl.1, fun x hx => ?_⟩
    rw [goes_low hl.1]
    exact List.all_eq_true.1 hl.2 x hx
  change wvB kind s = true at h
  unfold wvB at h
  split at h
  · rename_i e
    subst e
    simp only [isName, Bool.and_eq_true, decide_eq_true_eq, Bool.not_eq_true'] at h
    obtain ⟨h1, h2, h3, h4⟩ := h
    cases hs : s.data.toList with
    | nil =>
      have : s.size = 0 := by
        have := congrArg List.length hs
        simpa using this
      omega
    | cons b t =>
      obtain ⟨g1, g2⟩ := hlow h3 hs
      refine ⟨b, t, rfl, by rw [g1]; decide, by rw [g1]; decide, g2, ?_, ?_⟩
      · show (1 : Int) = kindS b s
        unfold kindS
        rw [h4, if_neg (by decide), g1]
      · rw [g1]
  · split at h
    · rename_i _ e
      subst e
      simp only [numOk, decide_eq_true_eq] at h
      cases hn : numL s.data.toList with
      | none =>
        rw [numW_no hn] at h
        omega
      | some n =>
        cases hs : s.data.toList with
        | nil => rw [hs] at hn; simp [numL] at hn
        | cons b t =>
          have hdec : Lib.decFrom 0 (b :: t) = some n := by
            rw [hs] at hn
            unfold numL at hn
            split at hn
            · cases hn
            · exact hn
          have hall : ∀ x ∈ b :: t, isDig x = true := by
            intro x hx
            obtain ⟨k, hk⟩ := List.mem_iff_getElem?.1 hx
            cases hd : isDig x with
            | true => rfl
            | false =>
              rw [decFrom_not hk hd] at hdec
              cases hdec
          have hb := hall b List.mem_cons_self
          have hc := cls_dig hb
          refine ⟨b, t, rfl, by rw [hc]; decide, by rw [hc]; decide, fun x hx => ?_, ?_, ?_⟩
          · rw [goes_dig hb]
            exact hall x (List.mem_cons_of_mem _ hx)
          · show (2 : Int) = kindS b s
            unfold kindS
            have hl : low b = false := by
              cases h2 : low b with
              | false => rfl
              | true => rw [low_dig h2] at hb; cases hb
            rw [key_no (by rw [hs]; rfl) hl, if_neg (by decide), hc]
          · rw [hc]
    · split at h
      · rename_i _ _ e
        subst e
        simp only [sigW, Bool.and_eq_true, decide_eq_true_eq] at h
        cases hs : s.data.toList with
        | nil =>
          have h2 : s.size = 0 := by
            have := congrArg List.length hs
            simpa using this
          have h3 := h.1
          omega
        | cons b t =>
          have ht : t = [] := by
            have := congrArg List.length hs
            simp at this
            exact List.eq_nil_of_length_eq_zero (by omega)
          subst ht
          have hb : isSign b = true := by
            have := h.2
            rw [hs] at this
            simpa using this
          have hc : cls b = 3 := by
            have := cls_three b
            rw [hb] at this
            simpa using this
          refine ⟨b, [], rfl, by rw [hc]; decide, by rw [hc]; decide, (fun x hx => by cases hx), ?_, ?_⟩
          · show (3 : Int) = kindS b s
            unfold kindS
            rw [key_no (by rw [hs]; rfl) (isSign_out hb).1, if_neg (by decide), hc]
          · rw [hc]
      · split at h
        · rename_i _ _ _ e
          subst e
          have hall : ∀ k ∈ keysL, (k.toList.all low) = true ∧ k.toList ≠ [] := by decide +kernel
          have hk := h
          unfold isKey at h
          obtain ⟨k, hm, he⟩ := List.any_eq_true.1 h
          have h1 : s.toList = k.toList := by simpa using he
          have h6 : s.toList = s.data.toList := ba_toList s
          obtain ⟨g1, g2⟩ := hall k hm
          rw [← h1, h6] at g1 g2
          cases hs : s.data.toList with
          | nil => exact absurd hs g2
          | cons b t =>
            obtain ⟨c1, c2⟩ := hlow g1 hs
            refine ⟨b, t, rfl, by rw [c1]; decide, by rw [c1]; decide, c2, ?_, ?_⟩
            · show (4 : Int) = kindS b s
              unfold kindS
              rw [if_pos hk]
            · rw [c1]
              show (4 : Int) = 3 ↔ (1 : Int) = 3
              decide
        · cases h
theorem tw_all {p : UInt8 → Bool} (rest : List UInt8) (hr : ∀ x, rest.head? = some x → p x = false) : ∀ t : List UInt8, (∀ x ∈ t, p x = true) → (t ++ rest).takeWhile p = t ∧ (t ++ rest).dropWhile p = rest
  | [], _ => by
    cases rest with
    | nil => exact ⟨rfl, rfl⟩
    | cons x r =>
      have := hr x rfl
      simp [List.takeWhile_cons, List.dropWhile_cons, this]
  | a :: t, h => by
    obtain ⟨e1, e2⟩ := tw_all rest hr t (fun x hx => h x (List.mem_cons_of_mem _ hx))
    have ha := h a List.mem_cons_self
    simp [List.takeWhile_cons, List.dropWhile_cons, ha, e1, e2]
/-- a valid word ahead, and what does not go on with it -/
theorem cutB_first {a : WordD} (h : wv a = true) (rest : List UInt8) (hr : ∀ b x, a.text.data.toList.head? = some b → rest.head? = some x → goes b x = false) : cutB (a.text.data.toList ++ rest) = (cutB rest).map (a :: ·) := by
  obtain ⟨b, t, hs, h0, h4, ht, hk, _⟩ := valid_form h
  obtain ⟨e1, e2⟩ := tw_all rest (fun x hx => hr b x (by rw [hs]; rfl) hx) t ht
  have hm : mkW b ((t ++ rest).takeWhile (goes b)) = a := by
    rw [e1]
    obtain ⟨kind, s⟩ := a
    have hb : (⟨(b :: t).toArray⟩ : ByteArray) = s := ba_of (by rw [hs])
    show (⟨kindS b ⟨(b :: t).toArray⟩, ⟨(b :: t).toArray⟩⟩ : WordD) = _
    rw [hb]
    exact congrArg (fun k => (⟨k, s⟩ : WordD)) hk.symm
  rw [hs, List.cons_append, cutB_word h4 h0 (by rw [hm]; exact h), hm, e2]
/-- words joined are cut again -/
theorem cutB_join : ∀ l : List WordD, l.all wv = true → cutB (Lib.joinTail [32] (tx l)) = some l
  | [], _ => by
    show cutB [] = _
    exact cutB_nil
  | a :: r, h => by
    rw [List.all_cons, Bool.and_eq_true] at h
    have ih := cutB_join r h.2
    have e : Lib.joinTail [32] (tx (a :: r)) = 32 :: (a.text.data.toList ++ Lib.joinTail [32] (tx r)) := by
      simp [tx, Lib.joinTail]
    rw [e, cutB_blank _ (by decide), cutB_first h.1, ih]
    · rfl
    · intro b x hb hx
      obtain ⟨b', t, hs, h0, h4, _⟩ := valid_form h.1
      rw [hs] at hb
      obtain rfl := Option.some.inj hb
      cases r with
      | nil => simp [tx, Lib.joinTail] at hx
      | cons c r =>
        simp [tx, Lib.joinTail] at hx
        subst hx
        exact goes_not (Or.inl (by rw [show cls 32 = 4 by decide]; exact fun e => h4 e.symm))
theorem cutB_jT (l : List WordD) (h : l.all wv = true) : cutB (jT l).data.toList = some l := by
  cases l with
  | nil =>
    show cutB [] = _
    exact cutB_nil
  | cons a r =>
    have e := cutB_join (a :: r) h
    have e2 : Lib.joinTail [32] (tx (a :: r)) = 32 :: (jT (a :: r)).data.toList := by
      show _ = 32 :: Lib.join (tx (a :: r)) [32]
      rw [show tx (a :: r) = a.text.data.toList :: tx r from rfl, Lib.join_cons]
      simp [Lib.joinTail]
    rw [e2, cutB_blank _ (by decide)] at e
    exact e
theorem cut_some {s : ByteArray} {l : List WordD} (h : cutB s.data.toList = some l) (h3 : s.size ≤ 3000) (h6 : l.length ≤ 600) : cutOk s = true ∧ cutLst s = l := cutOk_some (by rw [cutR_cutB]; exact h) h3 h6
end Go.Proofs.YtbikgakoeheahaaGreatDoor
