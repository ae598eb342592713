/-
  Data with the blocks in which they lie: lists of numbers, phis, instructions, blocks, codes. No condition.
-/
import Derived.Test.YtgcjccoglcgcoaaOwn
import Derived.Test.YtgcjccoglcgcoaaSoft
import Derived.Test.YtgcjccoglcgcoaaSz
namespace Go.Proofs.Ytgcjccoglcgcoaa
open Go.RowKit Go.ChangeShapes Go.WideShapes Go.Deep
set_option linter.unusedSimpArgs false
set_option linter.unusedVariables false
/-- what a value reads as, and the blocks in which it lies -/
structure Fsh (α : Type) where
  size : Nat
  rep : World → List Nat → α → List Value → Prop
  len : ∀ {w : World} {fp : List Nat} {a : α} {cs : List Value}, rep w fp a cs → cs.length = size
  keep : ∀ {w w' : World} {fp : List Nat} {a : α} {cs : List Value}, rep w fp a cs → (∀ b ∈ fp, w'.heap[b]? = w.heap[b]?) → rep w' fp a cs
  lt : ∀ {w : World} {fp : List Nat} {a : α} {cs : List Value}, rep w fp a cs → ∀ b ∈ fp, b < w.heap.size
def intF : Fsh Int where
  size := 1
  rep := fun _ fp a cs => fp = [] ∧ cs = [.int .i64 a] ∧ I64 a
  len := fun ⟨_, h, _⟩ => by rw [h]; rfl
  keep := fun h _ => h
  lt := fun ⟨h, _⟩ b hb => by rw [h] at hb; cases hb
/-- a slice whose row is one of the blocks; its elements' blocks are told one by one -/
def SlF {α : Type} (S : Fsh α) (t : TypeId) (w : World) (fp : List Nat) (l : List α) (v : Value) : Prop :=
  ∃ (A : Option Addr) (cap : Nat), v = .slice A l.length cap ∧ l.length ≤ cap ∧ cap ≤ maxLen ∧ ((l = [] ∧ fp = [] ∧ cap = 0) ∨ ∃ (b : Nat) (cur : Array Value) (fps : List (List Nat)), A = some ⟨b, 0, none⟩ ∧ Row w b t cur ∧ cur.size = cap * S.size ∧ fps.length = l.length ∧ fp = b :: fps.flatten ∧
    ∀ (i : Nat) (a : α) (f : List Nat), l[i]? = some a → fps[i]? = some f → ∃ cs, S.rep w f a cs ∧ ∀ (j : Nat) (u : Value), cs[j]? = some u → cur[i * S.size + j]? = some u)
theorem flat_mem {fps : List (List Nat)} {i : Nat} {f : List Nat} (h : fps[i]? = some f) {b : Nat} (hb : b ∈ f) : b ∈ fps.flatten := List.mem_flatten.2 ⟨f, List.mem_of_getElem? h, hb⟩
theorem SlF.keep {α : Type} {S : Fsh α} {t : TypeId} {w w' : World} {fp : List Nat} {l : List α} {v : Value} (h : SlF S t w fp l v) (hk : ∀ b ∈ fp, w'.heap[b]? = w.heap[b]?) : SlF S t w' fp l v := by
  obtain ⟨A, cap, rfl, h1, h2, h3⟩ := h
  refine ⟨A, cap, rfl, h1, h2, h3.imp id ?_⟩
  rintro ⟨b, cur, fps, rfl, R, hz, hl, rfl, hc⟩
  refine ⟨b, cur, fps, rfl, (hk b (by simp)).trans R, hz, hl, rfl, fun i a f ha hf => ?_⟩
  obtain ⟨cs, hr, hcs⟩ := hc i a f ha hf
  exact ⟨cs, S.keep hr (fun x hx => hk x (List.mem_cons_of_mem _ (flat_mem hf hx))), hcs⟩
theorem SlF.lt {α : Type} {S : Fsh α} {t : TypeId} {w : World} {fp : List Nat} {l : List α} {v : Value} (h : SlF S t w fp l v) : ∀ b ∈ fp, b < w.heap.size := by
  obtain ⟨A, cap, rfl, h1, h2, h3⟩ := h
  rcases h3 with ⟨_, rfl, _⟩ | ⟨b, cur, fps, rfl, R, hz, hl, rfl, hc⟩
  · intro b hb
    cases hb
  · intro x hx
    rcases List.mem_cons.1 hx with rfl | hx
    · exact R.lt
    · obtain ⟨f, hf, hx⟩ := List.mem_flatten.1 hx
      obtain ⟨i, hi⟩ := List.mem_iff_getElem?.1 hf
      have hil := (List.getElem?_eq_some_iff.1 hi).1
      obtain ⟨cs, hr, _⟩ := hc i (l[i]'(by omega)) f (List.getElem?_eq_getElem (by omega)) hi
      exact S.lt hr x hx
theorem SlF.nil_ {α : Type} (S : Fsh α) (t : TypeId) (w : World) : SlF S t w [] [] (.slice none 0 0) := ⟨none, 0, rfl, by simp, by simp [maxLen], Or.inl ⟨rfl, rfl, rfl⟩⟩
theorem SlF.empty_ {α : Type} (S : Fsh α) (t : TypeId) (w : World) (A : Option Addr) : SlF S t w [] [] (.slice A 0 0) := ⟨A, 0, rfl, by simp, by simp [maxLen], Or.inl ⟨rfl, rfl, rfl⟩⟩
theorem SlF.form {α : Type} {S : Fsh α} {t : TypeId} {w : World} {fp : List Nat} {l : List α} {v : Value} (h : SlF S t w fp l v) : ∃ (A : Option Addr) (cap : Nat), v = .slice A l.length cap ∧ l.length ≤ cap ∧ cap ≤ 9223372036854775807 := by
  obtain ⟨A, cap, rfl, h1, h2, _⟩ := h
  exact ⟨A, cap, rfl, h1, by unfold maxLen at h2; omega⟩
/-- it reads as a list, where its blocks lie between lo and B -/
theorem SlF.sl {α : Type} {m : Bool} {S : Fsh α} {S' : Shp α} {t : TypeId} {w : World} {lo B : Nat} {fp : List Nat} {l : List α} {v : Value} (h : SlF S t w fp l v) (hb : ∀ b ∈ fp, lo ≤ b ∧ b < B) (hz : S.size = S'.size)
    (hs : ∀ {f : List Nat} {a : α} {cs : List Value}, (∀ b ∈ f, lo ≤ b ∧ b < B) → S.rep w f a cs → S'.rep w lo B a cs) : Sl m S' w lo B l v := by
  obtain ⟨A, cap, rfl, h1, h2, h3⟩ := h
  rcases h3 with ⟨rfl, rfl, rfl⟩ | ⟨b, cur, fps, rfl, R, hcz, hl, rfl, hc⟩
  · exact ⟨A, 0, rfl, h1, h2, fun h => absurd rfl h⟩
  · have hbb := hb b (by simp)
    refine ⟨some ⟨b, 0, none⟩, cap, rfl, h1, h2, fun _ => ⟨b, 0, rfl, hbb.1, hbb.2, fun _ j => R.frozen j, fun i a ha => ?_⟩⟩
    have hil := (List.getElem?_eq_some_iff.1 ha).1
    have hf : fps[i]? = some (fps[i]'(by omega)) := List.getElem?_eq_getElem (by omega)
    obtain ⟨cs, hr, hcs⟩ := hc i a _ ha hf
    refine ⟨cs, hs (fun x hx => hb x (List.mem_cons_of_mem _ (flat_mem hf hx))) hr, fun j u hu => ?_⟩
    rw [← hz, Nat.zero_add, R.cell]
    exact hcs j u hu
theorem flat_sep : ∀ {fps : List (List Nat)}, fps.flatten.Nodup → ∀ {i k : Nat} {f g : List Nat}, fps[i]? = some f → fps[k]? = some g → i ≠ k → ∀ x, x ∈ f → x ∉ g
  | [], _, i, _, f, _, hf, _, _, _, _ => by simp at hf
  | a :: r, hd, i, k, f, g, hf, hg, hik, x, hx => by
    rw [List.flatten_cons, List.nodup_append] at hd
    obtain ⟨_, h2, h3⟩ := hd
    cases i with
    | zero =>
      cases k with
      | zero => exact absurd rfl hik
      | succ k =>
        simp at hf
        subst hf
        intro hxg
        exact h3 x hx x (flat_mem (by simpa using hg) hxg) rfl
    | succ i =>
      cases k with
      | zero =>
        simp at hg
        subst hg
        intro hxg
        exact h3 x hxg x (flat_mem (by simpa using hf) hx) rfl
      | succ k => exact flat_sep h2 (by simpa using hf) (by simpa using hg) (by omega) x hx
theorem flat_nodup : ∀ {fps : List (List Nat)}, fps.flatten.Nodup → ∀ {i : Nat} {f : List Nat}, fps[i]? = some f → f.Nodup
  | [], _, i, f, hf => by simp at hf
  | a :: r, hd, i, f, hf => by
    rw [List.flatten_cons, List.nodup_append] at hd
    cases i with
    | zero =>
      simp at hf
      subst hf
      exact hd.1
    | succ i => exact flat_nodup hd.2.1 (by simpa using hf)
/-- an element is looked into, and laid back changed in its own places -/
theorem SlF.look {α : Type} {S : Fsh α} {t : TypeId} {w : World} {fp : List Nat} {l : List α} {v : Value} (h : SlF S t w fp l v) (hnd : fp.Nodup) {i : Nat} {a : α} (ha : l[i]? = some a) :
    ∃ (b cap : Nat) (cur : Array Value) (f : List Nat) (cs : List Value), v = .slice (some ⟨b, 0, none⟩) l.length cap ∧ Row w b t cur ∧ b ∈ fp ∧ (∀ x ∈ f, x ∈ fp) ∧ b ∉ f ∧ f.Nodup ∧ S.rep w f a cs ∧ (∀ (j : Nat) (u : Value), cs[j]? = some u → cur[i * S.size + j]? = some u) ∧
    ∀ (w' : World) (a' : α) (cs' : List Value) (cur' : Array Value), (∀ x ∈ fp, x ∉ f → x ≠ b → w'.heap[x]? = w.heap[x]?) → Row w' b t cur' → cur'.size = cur.size → (∀ q, (q < i * S.size ∨ (i + 1) * S.size ≤ q) → cur'[q]? = cur[q]?) → S.rep w' f a' cs' →
      (∀ (j : Nat) (u : Value), cs'[j]? = some u → cur'[i * S.size + j]? = some u) → SlF S t w' fp (l.set i a') v := by
  obtain ⟨A, cap, rfl, h1, h2, h3⟩ := h
  have hil := (List.getElem?_eq_some_iff.1 ha).1
  rcases h3 with ⟨rfl, rfl, _⟩ | ⟨b, cur, fps, rfl, R, hcz, hl, rfl, hc⟩
  · simp at hil
  have hfi : fps[i]? = some (fps[i]'(by omega)) := List.getElem?_eq_getElem (by omega)
  obtain ⟨f, hf⟩ : ∃ f, fps[i]'(by omega) = f := ⟨_, rfl⟩
  rw [hf] at hfi
  rw [List.nodup_cons] at hnd
  obtain ⟨cs, hr, hcs⟩ := hc i a f ha hfi
  refine ⟨b, cap, cur, f, cs, rfl, R, by simp, fun x hx => List.mem_cons_of_mem _ (flat_mem hfi hx), fun hx => hnd.1 (flat_mem hfi hx), flat_nodup hnd.2 hfi, hr, hcs, ?_⟩
  intro w' a' cs' cur' hk R' hz' hcur hr' hcs'
  refine ⟨some ⟨b, 0, none⟩, cap, by rw [List.length_set], by rw [List.length_set]; exact h1, h2, Or.inr ⟨b, cur', fps, rfl, R', hz'.trans hcz, by rw [List.length_set]; exact hl, rfl, fun k x g hx hg => ?_⟩⟩
  by_cases hki : k = i
  · subst hki
    rw [List.getElem?_set_self (by omega)] at hx
    injection hx with hx
    subst hx
    rw [hfi] at hg
    injection hg with hg
    subst hg
    exact ⟨cs', hr', hcs'⟩
  · rw [List.getElem?_set_ne (Ne.symm hki)] at hx
    obtain ⟨ds, hd, hds⟩ := hc k x g hx hg
    refine ⟨ds, S.keep hd (fun y hy => hk y (List.mem_cons_of_mem _ (flat_mem hg hy)) (fun hyf => flat_sep hnd.2 hfi hg (Ne.symm hki) y hyf hy) (fun e => hnd.1 (e ▸ flat_mem hg hy))), fun j u hu => ?_⟩
    rw [hcur _ ?_]
    · exact hds j u hu
    · have hj := (List.getElem?_eq_some_iff.1 hu).1
      rw [S.len hd] at hj
      rcases Nat.lt_or_ge k i with hlt | hge
      · left
        have := Nat.mul_le_mul_right S.size (show k + 1 ≤ i from hlt)
        rw [Nat.add_mul, Nat.one_mul] at this
        omega
      · right
        have := Nat.mul_le_mul_right S.size (show i + 1 ≤ k by omega)
        omega
/-- what a call owns, as a list: to be appended to -/
def OwF {α : Type} (S : Fsh α) (t : TypeId) (w : World) (base : Nat) (fp : List Nat) (l : List α) (v : Value) : Prop :=
  ∃ (xs : List Value) (fps : List (List Nat)), w.ownsRow base t S.size v l.length xs ∧ fps.length = l.length ∧ fp = (match v.ownBlock with | some b => [b] | none => []) ++ fps.flatten ∧
    ∀ (i : Nat) (a : α) (f : List Nat), l[i]? = some a → fps[i]? = some f → ∃ cs, S.rep w f a cs ∧ ∀ (j : Nat) (u : Value), cs[j]? = some u → xs[i * S.size + j]? = some u
theorem OwF.nil_ {α : Type} (S : Fsh α) (t : TypeId) (w : World) (base : Nat) : OwF S t w base [] [] (.slice none 0 0) := ⟨[], [], ⟨by simp, Or.inl ⟨rfl, rfl⟩⟩, rfl, rfl, fun i a f ha => by simp at ha⟩
/-- what is owned reads so -/
theorem OwF.sl {α : Type} {S : Fsh α} {t : TypeId} {w : World} {base : Nat} {fp : List Nat} {l : List α} {v : Value} (h : OwF S t w base fp l v) : SlF S t w fp l v := by
  obtain ⟨xs, fps, own, hl, hfp, hc⟩ := h
  rcases own.2 with ⟨rfl, h1⟩ | ⟨g, cap, cur, rfl, h2, h3, h4, h5, h6, h7⟩
  · obtain rfl : l = [] := List.eq_nil_of_length_eq_zero h1
    obtain rfl : fps = [] := List.eq_nil_of_length_eq_zero hl
    exact ⟨none, 0, rfl, by simp, by simp [maxLen], Or.inl ⟨rfl, hfp, rfl⟩⟩
  · refine ⟨_, cap, rfl, h4, h5, Or.inr ⟨g, cur, fps, rfl, h3, h6, hl, hfp, fun i a f ha hf => ?_⟩⟩
    obtain ⟨cs, hr, hcs⟩ := hc i a f ha hf
    refine ⟨cs, hr, fun j u hu => ?_⟩
    have e1 := hcs j u hu
    rw [← h7] at e1
    have hlt := (List.getElem?_eq_some_iff.1 e1).1
    rw [List.getElem?_take_of_lt (by simp at hlt; omega)] at e1
    simpa using e1
/-- one element more -/
theorem OwF.snoc {α : Type} {S : Fsh α} {t : TypeId} {w1 w4 : World} {base : Nat} {fp f : List Nat} {v v' : Value} {l : List α} {a : α} {cs : List Value} {o : Obj} (h : OwF S t w1 base fp l v) (hr : S.rep w1 f a cs) (hnd : (fp ++ f).Nodup)
    (own4 : ∀ xs, w1.ownsRow base t S.size v l.length xs → w4.ownsRow base t S.size v' (l.length + 1) (xs ++ cs)) (hgrow : (w1.alloc o).grownBy w4 v.ownBlock) (hat : v'.ownBlock = v.ownBlock ∧ v.ownBlock ≠ none ∨ v'.ownBlock = some (w1.alloc o).heap.size) :
    ∃ fp', OwF S t w4 base fp' (l ++ [a]) v' ∧ fp'.Nodup ∧ (∀ x ∈ fp', x ∈ fp ∨ x ∈ f ∨ x = w1.heap.size + 1) := by
  obtain ⟨xs, fps, own, hl, rfl, hc⟩ := h
  have hsz : ((w1.alloc o).heap.size : Nat) = w1.heap.size + 1 := by simp
  rw [hsz] at hat
  rw [List.nodup_append] at hnd
  obtain ⟨hn1, hn2, hn3⟩ := hnd
  rw [List.nodup_append] at hn1
  obtain ⟨_, hn5, hn6⟩ := hn1
  have hflt : ∀ x ∈ fps.flatten, x < w1.heap.size := fun x hx => by
    obtain ⟨g, hg, hx⟩ := List.mem_flatten.1 hx
    obtain ⟨i, hi⟩ := List.mem_iff_getElem?.1 hg
    have hil := (List.getElem?_eq_some_iff.1 hi).1
    obtain ⟨_, hr', _⟩ := hc i (l[i]'(by omega)) g (List.getElem?_eq_getElem (by omega)) hi
    exact S.lt hr' x hx
  have hown : ∀ x, v.ownBlock = some x → x ∉ fps.flatten ∧ x ∉ f := fun x hx => by
    rw [hx] at hn6 hn3
    exact ⟨fun hm => hn6 x (by simp) x hm rfl, fun hm => hn3 x (by simp) x hm rfl⟩
  have hkeep : ∀ x, x < w1.heap.size → (∀ y, v.ownBlock = some y → x ≠ y) → w4.heap[x]? = w1.heap[x]? := fun x hx hne => (hgrow.block x (by omega) (fun e => hne x e.symm rfl)).trans (Below.heap_alloc w1 o x hx)
  refine ⟨(match v'.ownBlock with | some b => [b] | none => []) ++ (fps ++ [f]).flatten, ⟨xs ++ cs, fps ++ [f], by rw [List.length_append, List.length_singleton]; exact own4 xs own, by simp [hl], rfl, fun i x g hx hg => ?_⟩, ?_, ?_⟩
  · rcases Nat.lt_or_ge i l.length with hi | hi
    · rw [List.getElem?_append_left hi] at hx
      rw [List.getElem?_append_left (by omega)] at hg
      obtain ⟨ds, hd, hds⟩ := hc i x g hx hg
      refine ⟨ds, S.keep hd (fun y hy => hkeep y (S.lt hd y hy) (fun z hz e => (hown z hz).1 (e ▸ flat_mem hg hy))), fun j u hu => ?_⟩
      have := hds j u hu
      rw [List.getElem?_append_left (List.getElem?_eq_some_iff.1 this).1]
      exact this
    · obtain rfl : i = l.length := by
        have := (List.getElem?_eq_some_iff.1 hx).1
        simp at this
        omega
      rw [List.getElem?_append_right (Nat.le_refl _)] at hx
      rw [List.getElem?_append_right (by omega), hl] at hg
      simp at hx hg
      subst hx
      subst hg
      refine ⟨cs, S.keep hr (fun y hy => hkeep y (S.lt hr y hy) (fun z hz e => (hown z hz).2 (e ▸ hy))), fun j u hu => ?_⟩
      have hxl : xs.length = l.length * S.size := own.1
      rw [List.getElem?_append_right (by omega), hxl]
      simpa using hu
  · rw [List.flatten_append, List.flatten_singleton]
    have hff : (fps.flatten ++ f).Nodup := by
      rw [List.nodup_append]
      exact ⟨hn5, hn2, fun x hx y hy => hn3 x (List.mem_append_right _ hx) y hy⟩
    rcases hat with ⟨e, hne⟩ | e
    · rw [e]
      cases hv : v.ownBlock with
      | none => exact absurd hv hne
      | some b =>
        show (b :: (fps.flatten ++ f)).Nodup
        rw [List.nodup_cons]
        exact ⟨fun hm => by
          rcases List.mem_append.1 hm with hm | hm
          · exact (hown b hv).1 hm
          · exact (hown b hv).2 hm, hff⟩
    · rw [e]
      show ((w1.heap.size + 1) :: (fps.flatten ++ f)).Nodup
      rw [List.nodup_cons]
      exact ⟨fun hm => by
        rcases List.mem_append.1 hm with hm | hm
        · have := hflt _ hm
          omega
        · have := S.lt hr _ hm
          omega, hff⟩
  · intro x hx
    rw [List.flatten_append, List.flatten_singleton] at hx
    rcases List.mem_append.1 hx with hx | hx
    · rcases hat with ⟨e, hne⟩ | e
      · rw [e] at hx
        exact Or.inl (List.mem_append_left _ hx)
      · rw [e] at hx
        simp at hx
        exact Or.inr (Or.inr hx)
    · rcases List.mem_append.1 hx with hx | hx
      · exact Or.inl (List.mem_append_right _ hx)
      · exact Or.inr (Or.inl hx)
def phF : Fsh PhiD where
  size := 2
  rep := fun w fp a cs => ∃ v, cs = [.int .i64 a.to, v] ∧ I64 a.to ∧ SlF intF 3 w fp a.args v
  len := fun ⟨_, h, _⟩ => by rw [h]; rfl
  keep := fun ⟨v, h, h1, h2⟩ hk => ⟨v, h, h1, h2.keep hk⟩
  lt := fun ⟨v, h, h1, h2⟩ => h2.lt
def isF : Fsh InsD where
  size := 4
  rep := fun w fp a cs => ∃ v, cs = [.int .i64 a.op, .int .i64 a.to, v, .int .i64 a.n] ∧ I64 a.op ∧ I64 a.to ∧ I64 a.n ∧ SlF intF 3 w fp a.args v
  len := fun ⟨_, h, _⟩ => by rw [h]; rfl
  keep := fun ⟨v, h, h1, h2, h3, h4⟩ hk => ⟨v, h, h1, h2, h3, h4.keep hk⟩
  lt := fun ⟨v, h, h1, h2, h3, h4⟩ => h4.lt
def bkF : Fsh BlkD where
  size := 5
  rep := fun w fp a cs => ∃ (f0 f1 f2 : List Nat) (v0 v1 v2 : Value), fp = f0 ++ (f1 ++ f2) ∧ cs = [v0, v1, .int .i64 a.jump, .int .i64 a.on, v2] ∧ I64 a.jump ∧ I64 a.on ∧ SlF phF 69 w f0 a.phis v0 ∧ SlF isF 72 w f1 a.ins v1 ∧ SlF intF 3 w f2 a.next v2
  len := fun ⟨_, _, _, _, _, _, _, h, _⟩ => by rw [h]; rfl
  keep := fun ⟨f0, f1, f2, v0, v1, v2, h0, h, h1, h2, h3, h4, h5⟩ hk => ⟨f0, f1, f2, v0, v1, v2, h0, h, h1, h2, h3.keep (fun b hb => hk b (by rw [h0]; simp [hb])), h4.keep (fun b hb => hk b (by rw [h0]; simp [hb])), h5.keep (fun b hb => hk b (by rw [h0]; simp [hb]))⟩
  lt := fun ⟨f0, f1, f2, v0, v1, v2, h0, h, h1, h2, h3, h4, h5⟩ b hb => by
    rw [h0] at hb
    rcases List.mem_append.1 hb with hb | hb
    · exact h3.lt b hb
    · rcases List.mem_append.1 hb with hb | hb
      · exact h4.lt b hb
      · exact h5.lt b hb
def cdF : Fsh CodeD where
  size := 3
  rep := fun w fp a cs => ∃ v, cs = [.int .i64 a.params, .int .i64 a.regs, v] ∧ I64 a.params ∧ I64 a.regs ∧ SlF bkF 65 w fp a.blocks v
  len := fun ⟨_, h, _⟩ => by rw [h]; rfl
  keep := fun ⟨v, h, h1, h2, h3⟩ hk => ⟨v, h, h1, h2, h3.keep hk⟩
  lt := fun ⟨v, h, h1, h2, h3⟩ => h3.lt
theorem intF_S (m : Bool) {w : World} {lo B : Nat} {f : List Nat} {a : Int} {cs : List Value} (h : intF.rep w f a cs) : (intS m).rep w lo B a cs := by
  obtain ⟨_, rfl, h1⟩ := h
  exact int_mk m _ _ _ h1
theorem SlF.ints {m : Bool} {w : World} {lo B : Nat} {fp : List Nat} {l : List Int} {v : Value} (h : SlF intF 3 w fp l v) (hb : ∀ b ∈ fp, lo ≤ b ∧ b < B) : Sl m (intS m) w lo B l v := h.sl hb rfl (fun _ hr => intF_S m hr)
theorem phF_S (m : Bool) {w : World} {lo B : Nat} {f : List Nat} {a : PhiD} {cs : List Value} (hb : ∀ b ∈ f, lo ≤ b ∧ b < B) (h : phF.rep w f a cs) : (phiS m).rep w lo B a cs := by
  obtain ⟨v, rfl, h1, h2⟩ := h
  exact phi_mk m a.to a.args v h1 (h2.ints hb)
theorem SlF.phis {m : Bool} {w : World} {lo B : Nat} {fp : List Nat} {l : List PhiD} {v : Value} (h : SlF phF 69 w fp l v) (hb : ∀ b ∈ fp, lo ≤ b ∧ b < B) : Sl m (phiS m) w lo B l v := h.sl hb rfl (fun hf hr => phF_S m hf hr)
theorem isF_S (m : Bool) {w : World} {lo B : Nat} {f : List Nat} {a : InsD} {cs : List Value} (hb : ∀ b ∈ f, lo ≤ b ∧ b < B) (h : isF.rep w f a cs) : (insS m).rep w lo B a cs := by
  obtain ⟨v, rfl, h1, h2, h3, h4⟩ := h
  exact ins_mk m a.op a.to a.args v a.n h1 h2 (h4.ints hb) h3
theorem SlF.inss {m : Bool} {w : World} {lo B : Nat} {fp : List Nat} {l : List InsD} {v : Value} (h : SlF isF 72 w fp l v) (hb : ∀ b ∈ fp, lo ≤ b ∧ b < B) : Sl m (insS m) w lo B l v := h.sl hb rfl (fun hf hr => isF_S m hf hr)
theorem bkF_S (m : Bool) {w : World} {lo B : Nat} {f : List Nat} {a : BlkD} {cs : List Value} (hb : ∀ b ∈ f, lo ≤ b ∧ b < B) (h : bkF.rep w f a cs) : (blkS m).rep w lo B a cs := by
  obtain ⟨f0, f1, f2, v0, v1, v2, rfl, rfl, h1, h2, h3, h4, h5⟩ := h
  exact blk_mk m a.phis v0 a.ins v1 a.jump a.on a.next v2 (h3.phis (fun b hx => hb b (by simp [hx]))) (h4.inss (fun b hx => hb b (by simp [hx]))) h1 h2 (h5.ints (fun b hx => hb b (by simp [hx])))
theorem SlF.blks {m : Bool} {w : World} {lo B : Nat} {fp : List Nat} {l : List BlkD} {v : Value} (h : SlF bkF 65 w fp l v) (hb : ∀ b ∈ fp, lo ≤ b ∧ b < B) : Sl m (blkS m) w lo B l v := h.sl hb rfl (fun hf hr => bkF_S m hf hr)
theorem cdF_S (m : Bool) {w : World} {lo B : Nat} {f : List Nat} {a : CodeD} {cs : List Value} (hb : ∀ b ∈ f, lo ≤ b ∧ b < B) (h : cdF.rep w f a cs) : (codeS m).rep w lo B a cs := by
  obtain ⟨v, rfl, h1, h2, h3⟩ := h
  exact code_mk m a.params a.regs a.blocks v h1 h2 (h3.blks hb)
theorem SlF.cods {m : Bool} {w : World} {lo B : Nat} {fp : List Nat} {l : List CodeD} {v : Value} (h : SlF cdF 39 w fp l v) (hb : ∀ b ∈ fp, lo ≤ b ∧ b < B) : Sl m (codeS m) w lo B l v := h.sl hb rfl (fun hf hr => cdF_S m hf hr)
end Go.Proofs.Ytgcjccoglcgcoaa
