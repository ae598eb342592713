/-
  A number written where data lie: through lists of numbers, phis, instructions, blocks. And the map of the numbers. No condition.
-/
import Derived.Test.YtgcjccoglcgcoaaFoot
import Derived.Test.YtgcjccoglcgcoaaTight
import Derived.Maps.Own
import Derived.Maps.OwnOps
import Derived.Maps.OwnSet
import Derived.Maps.Keyed
namespace Go.Proofs.Ytgcjccoglcgcoaa
open Go.RowKit Go.ChangeShapes Go.WideShapes Go.Deep
set_option linter.unusedSimpArgs false
set_option linter.unusedVariables false
/-- only the blocks fp and the map M have changed -/
def Fr (fp : List Nat) (M : Nat) (w w' : World) : Prop := Below 0 w w' ∧ ∀ x, x ∉ fp → x ≠ M → w'.heap[x]? = w.heap[x]?
theorem Fr.refl (fp : List Nat) (M : Nat) (w : World) : Fr fp M w w := ⟨Below.refl _ _, fun _ _ _ => rfl⟩
theorem Fr.trans {fp : List Nat} {M : Nat} {a b c : World} (h : Fr fp M a b) (k : Fr fp M b c) : Fr fp M a c := ⟨h.1.trans k.1, fun x h1 h2 => (k.2 x h1 h2).trans (h.2 x h1 h2)⟩
theorem Fr.more {fp fq : List Nat} {M : Nat} {a b : World} (h : Fr fp M a b) (hs : ∀ x ∈ fp, x ∈ fq) : Fr fq M a b := ⟨h.1, fun x h1 h2 => h.2 x (fun hx => h1 (hs x hx)) h2⟩
theorem Fr.row {fp : List Nat} {M : Nat} {w w' : World} {b : Nat} {t : TypeId} {cs : Array Value} (h : Fr fp M w w') (R : Row w b t cs) (hb : b ∉ fp) (hM : b ≠ M) : Row w' b t cs := (h.2 b hb hM).trans R
theorem Fr.sl {α : Type} {S : Fsh α} {t : TypeId} {fp fq : List Nat} {M : Nat} {w w' : World} {l : List α} {v : Value} (h : Fr fp M w w') (hv : SlF S t w fq l v) (hd : ∀ x ∈ fq, x ∉ fp) (hM : M ∉ fq) : SlF S t w' fq l v := hv.keep fun b hb => h.2 b (hd b hb) (fun e => hM (e ▸ hb))
theorem Fr.drew {fp : List Nat} {M : Nat} {w w' : World} (h : Fr fp M w w') : Fr fp M w w'.drew := ⟨h.1.drew, h.2⟩
/-- number n has been written to cell o of block b, and the map M has changed -/
def Upd (w : World) (b o : Nat) (n : Int) (M : Nat) (w' : World) : Prop := Below 0 w w' ∧ ∀ x, x ≠ M → w'.heap[x]? = (w.setCell ⟨b, o, none⟩ (.int .i64 n)).heap[x]?
theorem Upd.row {w w' : World} {b o M : Nat} {n : Int} {t : TypeId} {cur : Array Value} (h : Upd w b o n M w') (R : Row w b t cur) (hM : b ≠ M) : Row w' b t (cur.setIfInBounds o (.int .i64 n)) := (h.2 b hM).trans (R.set_ o _)
theorem Upd.fr {w w' : World} {b o M : Nat} {n : Int} {fp : List Nat} (h : Upd w b o n M w') (hb : b ∈ fp) : Fr fp M w w' := ⟨h.1, fun x h1 h2 => (h.2 x h2).trans (Below.heap_setCell w _ _ x (fun e => h1 (by rw [e]; exact hb)))⟩
theorem SlF.look' {α : Type} {S : Fsh α} {t : TypeId} {w : World} {fp : List Nat} {l : List α} {A : Option Addr} {n cap : Nat} (h : SlF S t w fp l (.slice A n cap)) (hnd : fp.Nodup) {i : Nat} {a : α} (ha : l[i]? = some a) :
    ∃ (b : Nat) (cur : Array Value) (f : List Nat) (cs : List Value), A = some ⟨b, 0, none⟩ ∧ Row w b t cur ∧ b ∈ fp ∧ (∀ x ∈ f, x ∈ fp) ∧ b ∉ f ∧ f.Nodup ∧ S.rep w f a cs ∧ (∀ (j : Nat) (u : Value), cs[j]? = some u → cur[i * S.size + j]? = some u) ∧
    ∀ (w' : World) (a' : α) (cs' : List Value) (cur' : Array Value), (∀ x ∈ fp, x ∉ f → x ≠ b → w'.heap[x]? = w.heap[x]?) → Row w' b t cur' → cur'.size = cur.size → (∀ q, (q < i * S.size ∨ (i + 1) * S.size ≤ q) → cur'[q]? = cur[q]?) → S.rep w' f a' cs' →
      (∀ (j : Nat) (u : Value), cs'[j]? = some u → cur'[i * S.size + j]? = some u) → SlF S t w' fp (l.set i a') (.slice A n cap) := by
  obtain ⟨b, cap', cur, f, cs, hv, h1, h2, h3, h4, h5, h6, h7, h8⟩ := h.look hnd ha
  injection hv with e1 e2 e3
  exact ⟨b, cur, f, cs, e1, h1, h2, h3, h4, h5, h6, h7, h8⟩
theorem cur_set_ne {cur : Array Value} {o q : Nat} {u : Value} (h : q ≠ o) : (cur.setIfInBounds o u)[q]? = cur[q]? := by
  rw [Array.getElem?_setIfInBounds_ne (Ne.symm h)]
theorem cur_set_eq {cur : Array Value} {o : Nat} {u x : Value} (h : cur[o]? = some x) : (cur.setIfInBounds o u)[o]? = some u := by
  have hl := (Array.getElem?_eq_some_iff.1 h).1
  rw [Array.getElem?_setIfInBounds_self_of_lt hl]
theorem look_int {w : World} {g : List Nat} {l : List Int} {A : Option Addr} {n cap : Nat} (h : SlF intF 3 w g l (.slice A n cap)) (hnd : g.Nodup) {p : Nat} {a : Int} (ha : l[p]? = some a) :
    ∃ b, A = some ⟨b, 0, none⟩ ∧ b ∈ g ∧ w.cell? ⟨b, p, none⟩ = some (.int .i64 a) ∧ w.frozen? ⟨b, p, none⟩ = false ∧ I64 a ∧
      ∀ (M : Nat) (m : Int) (w' : World), M ∉ g → I64 m → Upd w b p m M w' → SlF intF 3 w' g (l.set p m) (.slice A n cap) ∧ Fr g M w w' := by
  obtain ⟨b, cur, f, cs, rfl, R, hb, _, _, _, ⟨rfl, rfl, hi⟩, hc, close⟩ := h.look' hnd ha
  have c0 : cur[p]? = some (.int .i64 a) := by simpa [intF] using hc 0 _ rfl
  refine ⟨b, rfl, hb, by rw [R.cell]; exact c0, R.frozen p, hi, fun M m w' hM hm hu => ?_⟩
  have hbM : b ≠ M := fun e => hM (e ▸ hb)
  refine ⟨close w' m [.int .i64 m] (cur.setIfInBounds p (.int .i64 m)) (fun x hx _ hxb => (hu.2 x (fun e => hM (e ▸ hx))).trans (Below.heap_setCell w _ _ x hxb)) (hu.row R hbM) (by simp) (fun q hq => cur_set_ne (by simp [intF] at hq; omega)) ⟨rfl, rfl, hm⟩ (fun j u hj => ?_), hu.fr hb⟩
  cases j with
  | zero =>
    simp at hj
    subst hj
    simpa [intF] using cur_set_eq c0
  | succ j => simp at hj
theorem look_phi {w : World} {f : List Nat} {l : List PhiD} {A : Option Addr} {n cap : Nat} (h : SlF phF 69 w f l (.slice A n cap)) (hnd : f.Nodup) {q : Nat} {y : PhiD} (ha : l[q]? = some y) :
    ∃ (b : Nat) (g : List Nat) (va : Value), A = some ⟨b, 0, none⟩ ∧ b ∈ f ∧ (∀ x ∈ g, x ∈ f) ∧ b ∉ g ∧ g.Nodup ∧ w.cell? ⟨b, q * 2, none⟩ = some (.int .i64 y.to) ∧ w.frozen? ⟨b, q * 2, none⟩ = false ∧ w.cell? ⟨b, q * 2 + 1, none⟩ = some va ∧ I64 y.to ∧ SlF intF 3 w g y.args va ∧
      (∀ (M : Nat) (m : Int) (w1 : World), M ∉ f → Upd w b (q * 2) m M w1 → w1.cell? ⟨b, q * 2 + 1, none⟩ = some va ∧ SlF intF 3 w1 g y.args va ∧ Fr f M w w1) ∧
      ∀ (M : Nat) (m : Int) (w1 w2 : World) (args' : List Int), M ∉ f → I64 m → Upd w b (q * 2) m M w1 → Fr g M w1 w2 → SlF intF 3 w2 g args' va → SlF phF 69 w2 f (l.set q ⟨m, args'⟩) (.slice A n cap) ∧ Fr f M w w2 := by
  obtain ⟨b, cur, g, cs, rfl, R, hb, hg, hbg, hgn, ⟨va, rfl, hi, hsl⟩, hc, close⟩ := h.look' hnd ha
  have c0 : cur[q * 2]? = some (.int .i64 y.to) := by simpa [phF] using hc 0 _ rfl
  have c1 : cur[q * 2 + 1]? = some va := by simpa [phF] using hc 1 _ rfl
  refine ⟨b, g, va, rfl, hb, hg, hbg, hgn, by rw [R.cell]; exact c0, R.frozen _, by rw [R.cell]; exact c1, hi, hsl, fun M m w1 hM hu => ?_, fun M m w1 w2 args' hM hm hu hf hs => ?_⟩
  · have hbM : b ≠ M := fun e => hM (e ▸ hb)
    refine ⟨?_, hsl.keep (fun x hx => (hu.2 x (fun e => hM (e ▸ hg x hx))).trans (Below.heap_setCell w _ _ x (fun e => hbg (by have : x = b := e; exact this ▸ hx)))), hu.fr hb⟩
    rw [(hu.row R hbM).cell, cur_set_ne (by omega)]
    exact c1
  · have hbM : b ≠ M := fun e => hM (e ▸ hb)
    have R1 := hu.row R hbM
    refine ⟨close w2 ⟨m, args'⟩ [.int .i64 m, va] (cur.setIfInBounds (q * 2) (.int .i64 m)) (fun x hx hxg hxb => (hf.2 x hxg (fun e => hM (e ▸ hx))).trans ((hu.2 x (fun e => hM (e ▸ hx))).trans (Below.heap_setCell w _ _ x hxb))) (hf.row R1 hbg hbM) (by simp) (fun p hp => cur_set_ne (by simp [phF] at hp; omega)) ⟨va, rfl, hm, hs⟩ (fun j u hj => ?_), (hu.fr hb).trans (hf.more hg)⟩
    match j with
    | 0 =>
      simp at hj
      subst hj
      simpa [phF] using cur_set_eq c0
    | 1 =>
      simp at hj
      subst hj
      show (cur.setIfInBounds (q * 2) (.int .i64 m))[q * 2 + 1]? = _
      rw [cur_set_ne (by omega)]
      exact c1
    | j + 2 => simp at hj
theorem look_ins {w : World} {f : List Nat} {l : List InsD} {A : Option Addr} {n cap : Nat} (h : SlF isF 72 w f l (.slice A n cap)) (hnd : f.Nodup) {q : Nat} {y : InsD} (ha : l[q]? = some y) :
    ∃ (b : Nat) (g : List Nat) (va : Value), A = some ⟨b, 0, none⟩ ∧ b ∈ f ∧ (∀ x ∈ g, x ∈ f) ∧ b ∉ g ∧ g.Nodup ∧ w.cell? ⟨b, q * 4, none⟩ = some (.int .i64 y.op) ∧ w.cell? ⟨b, q * 4 + 1, none⟩ = some (.int .i64 y.to) ∧ w.frozen? ⟨b, q * 4 + 1, none⟩ = false ∧ w.cell? ⟨b, q * 4 + 2, none⟩ = some va ∧ I64 y.op ∧ I64 y.to ∧ SlF intF 3 w g y.args va ∧
      (∀ (M : Nat) (m : Int) (w1 : World), M ∉ f → Upd w b (q * 4 + 1) m M w1 → w1.cell? ⟨b, q * 4 + 2, none⟩ = some va ∧ SlF intF 3 w1 g y.args va ∧ Fr f M w w1) ∧
      ∀ (M : Nat) (m : Int) (w1 w2 : World) (args' : List Int), M ∉ f → I64 m → (Upd w b (q * 4 + 1) m M w1 ∨ w1 = w ∧ m = y.to) → Fr g M w1 w2 → SlF intF 3 w2 g args' va → SlF isF 72 w2 f (l.set q ⟨y.op, m, args', y.n⟩) (.slice A n cap) ∧ Fr f M w w2 := by
  obtain ⟨b, cur, g, cs, rfl, R, hb, hg, hbg, hgn, ⟨va, rfl, ho, hi, hn, hsl⟩, hc, close⟩ := h.look' hnd ha
  have c0 : cur[q * 4]? = some (.int .i64 y.op) := by simpa [isF] using hc 0 _ rfl
  have c1 : cur[q * 4 + 1]? = some (.int .i64 y.to) := by simpa [isF] using hc 1 _ rfl
  have c2 : cur[q * 4 + 2]? = some va := by simpa [isF] using hc 2 _ rfl
  have c3 : cur[q * 4 + 3]? = some (.int .i64 y.n) := by simpa [isF] using hc 3 _ rfl
  refine ⟨b, g, va, rfl, hb, hg, hbg, hgn, by rw [R.cell]; exact c0, by rw [R.cell]; exact c1, R.frozen _, by rw [R.cell]; exact c2, ho, hi, hsl, fun M m w1 hM hu => ?_, fun M m w1 w2 args' hM hm hu hf hs => ?_⟩
  · have hbM : b ≠ M := fun e => hM (e ▸ hb)
    refine ⟨?_, hsl.keep (fun x hx => (hu.2 x (fun e => hM (e ▸ hg x hx))).trans (Below.heap_setCell w _ _ x (fun e => hbg (by have : x = b := e; exact this ▸ hx)))), hu.fr hb⟩
    rw [(hu.row R hbM).cell, cur_set_ne (by omega)]
    exact c2
  · have hbM : b ≠ M := fun e => hM (e ▸ hb)
    have key : ∃ cur', Row w1 b 72 cur' ∧ cur'.size = cur.size ∧ (∀ p, p ≠ q * 4 + 1 → cur'[p]? = cur[p]?) ∧ cur'[q * 4 + 1]? = some (.int .i64 m) ∧ ∀ x ∈ f, x ≠ b → w1.heap[x]? = w.heap[x]? := by
      rcases hu with hu | ⟨rfl, rfl⟩
      · exact ⟨_, hu.row R hbM, by simp, fun p hp => cur_set_ne hp, cur_set_eq c1, fun x hx hxb => (hu.2 x (fun e => hM (e ▸ hx))).trans (Below.heap_setCell w _ _ x hxb)⟩
      · exact ⟨cur, R, rfl, fun p _ => rfl, c1, fun x _ _ => rfl⟩
    obtain ⟨cur', R1, kz, k1, k2, k3⟩ := key
    have hfr : Fr f M w w1 := by
      rcases hu with hu | ⟨rfl, rfl⟩
      · exact hu.fr hb
      · exact Fr.refl _ _ _
    refine ⟨close w2 ⟨y.op, m, args', y.n⟩ [.int .i64 y.op, .int .i64 m, va, .int .i64 y.n] cur' (fun x hx hxg hxb => (hf.2 x hxg (fun e => hM (e ▸ hx))).trans (k3 x hx hxb)) (hf.row R1 hbg hbM) kz (fun p hp => k1 p (by simp [isF] at hp; omega)) ⟨va, rfl, ho, hm, hn, hs⟩ (fun j u hj => ?_), hfr.trans (hf.more hg)⟩
    match j with
    | 0 =>
      simp at hj
      subst hj
      exact (k1 (q * 4) (by omega)).trans c0
    | 1 =>
      simp at hj
      subst hj
      exact k2
    | 2 =>
      simp at hj
      subst hj
      exact (k1 (q * 4 + 2) (by omega)).trans c2
    | 3 =>
      simp at hj
      subst hj
      exact (k1 (q * 4 + 3) (by omega)).trans c3
    | j + 4 => simp at hj
theorem app_nodup {a b c : List Nat} (h : (a ++ (b ++ c)).Nodup) : a.Nodup ∧ b.Nodup ∧ c.Nodup ∧ (∀ x ∈ a, x ∉ b) ∧ (∀ x ∈ a, x ∉ c) ∧ ∀ x ∈ b, x ∉ c := by
  rw [List.nodup_append, List.nodup_append] at h
  obtain ⟨h1, ⟨h2, h3, h4⟩, h5⟩ := h
  exact ⟨h1, h2, h3, fun x hx hb => h5 x hx x (List.mem_append_left _ hb) rfl, fun x hx hb => h5 x hx x (List.mem_append_right _ hb) rfl, fun x hx hb => h4 x hx x hb rfl⟩
theorem look_blk {w : World} {fp : List Nat} {l : List BlkD} {A : Option Addr} {n cap : Nat} (h : SlF bkF 65 w fp l (.slice A n cap)) (hnd : fp.Nodup) {k : Nat} {x : BlkD} (ha : l[k]? = some x) :
    ∃ (b : Nat) (f0 f1 f2 : List Nat) (v0 v1 v2 : Value), A = some ⟨b, 0, none⟩ ∧ b ∈ fp ∧ (∀ x ∈ f0, x ∈ fp) ∧ (∀ x ∈ f1, x ∈ fp) ∧ b ∉ f0 ∧ b ∉ f1 ∧ f0.Nodup ∧ f1.Nodup ∧ (∀ x ∈ f1, x ∉ f0) ∧ (∃ cur, Row w b 65 cur) ∧
      w.cell? ⟨b, k * 5, none⟩ = some v0 ∧ w.cell? ⟨b, k * 5 + 1, none⟩ = some v1 ∧ w.cell? ⟨b, k * 5 + 2, none⟩ = some (.int .i64 x.jump) ∧ w.cell? ⟨b, k * 5 + 3, none⟩ = some (.int .i64 x.on) ∧ I64 x.jump ∧ I64 x.on ∧ SlF phF 69 w f0 x.phis v0 ∧ SlF isF 72 w f1 x.ins v1 ∧
      (∀ (M : Nat) (fq : List Nat) (w1 : World), M ∉ fp → b ∉ fq → Fr fq M w w1 → w1.frozen? ⟨b, k * 5 + 3, none⟩ = false ∧ ∀ o, w1.cell? ⟨b, o, none⟩ = w.cell? ⟨b, o, none⟩) ∧
      ∀ (M : Nat) (m : Int) (w1 w2 w3 : World) (phis' : List PhiD) (ins' : List InsD), M ∉ fp → I64 m → Fr f0 M w w1 → SlF phF 69 w1 f0 phis' v0 → Fr f1 M w1 w2 → SlF isF 72 w2 f1 ins' v1 → (Upd w2 b (k * 5 + 3) m M w3 ∨ w3 = w2 ∧ m = x.on) →
        SlF bkF 65 w3 fp (l.set k ⟨phis', ins', x.jump, m, x.next⟩) (.slice A n cap) ∧ Fr fp M w w3 := by
  obtain ⟨b, cur, f, cs, rfl, R, hb, hf, hbf, hfn, ⟨f0, f1, f2, v0, v1, v2, rfl, rfl, hj, ho, h0, h1, h2⟩, hc, close⟩ := h.look' hnd ha
  obtain ⟨n0, n1, n2, d01, d02, d12⟩ := app_nodup hfn
  have hb0 : b ∉ f0 := fun h => hbf (by simp [h])
  have hb1 : b ∉ f1 := fun h => hbf (by simp [h])
  have hb2 : b ∉ f2 := fun h => hbf (by simp [h])
  have s0 : ∀ x ∈ f0, x ∈ fp := fun x hx => hf x (by simp [hx])
  have s1 : ∀ x ∈ f1, x ∈ fp := fun x hx => hf x (by simp [hx])
  have s2 : ∀ x ∈ f2, x ∈ fp := fun x hx => hf x (by simp [hx])
  have c0 : cur[k * 5]? = some v0 := by simpa [bkF] using hc 0 _ rfl
  have c1 : cur[k * 5 + 1]? = some v1 := by simpa [bkF] using hc 1 _ rfl
  have c2 : cur[k * 5 + 2]? = some (.int .i64 x.jump) := by simpa [bkF] using hc 2 _ rfl
  have c3 : cur[k * 5 + 3]? = some (.int .i64 x.on) := by simpa [bkF] using hc 3 _ rfl
  have c4 : cur[k * 5 + 4]? = some v2 := by simpa [bkF] using hc 4 _ rfl
  refine ⟨b, f0, f1, f2, v0, v1, v2, rfl, hb, s0, s1, hb0, hb1, n0, n1, fun x hx h => d01 x h hx, ⟨cur, R⟩, by rw [R.cell]; exact c0, by rw [R.cell]; exact c1, by rw [R.cell]; exact c2, by rw [R.cell]; exact c3, hj, ho, h0, h1, fun M fq w1 hM hq hfr => ?_, fun M m w1 w2 w3 phis' ins' hM hm hf0 hs0 hf1 hs1 hu => ?_⟩
  · have R1 := hfr.row R hq (fun e => hM (e ▸ hb))
    exact ⟨R1.frozen _, fun o => by rw [R1.cell, R.cell]⟩
  · have hbM : b ≠ M := fun e => hM (e ▸ hb)
    have m0 : M ∉ f0 := fun h => hM (s0 M h)
    have m1 : M ∉ f1 := fun h => hM (s1 M h)
    have m2 : M ∉ f2 := fun h => hM (s2 M h)
    have R2 := hf1.row (hf0.row R hb0 hbM) hb1 hbM
    have hs02 := hf1.sl hs0 d01 m0
    have h22 : SlF intF 3 w2 f2 x.next v2 := hf1.sl (hf0.sl h2 (fun y hy h => d02 y h hy) m2) (fun y hy h => d12 y h hy) m2
    have key : ∃ cur', Row w3 b 65 cur' ∧ cur'.size = cur.size ∧ (∀ p, p ≠ k * 5 + 3 → cur'[p]? = cur[p]?) ∧ cur'[k * 5 + 3]? = some (.int .i64 m) ∧ (∀ y ∈ fp, y ≠ b → w3.heap[y]? = w2.heap[y]?) ∧ Fr fp M w2 w3 := by
      rcases hu with hu | ⟨rfl, rfl⟩
      · exact ⟨_, hu.row R2 hbM, by simp, fun p hp => cur_set_ne hp, cur_set_eq c3, fun y hy hyb => (hu.2 y (fun e => hM (e ▸ hy))).trans (Below.heap_setCell w2 _ _ y hyb), hu.fr hb⟩
      · exact ⟨cur, R2, rfl, fun p _ => rfl, c3, fun y _ _ => rfl, Fr.refl _ _ _⟩
    obtain ⟨cur', R3, kz, k1, k2, k3, k4⟩ := key
    refine ⟨close w3 ⟨phis', ins', x.jump, m, x.next⟩ [v0, v1, .int .i64 x.jump, .int .i64 m, v2] cur' (fun y hy hyf hyb => ?_) R3 kz (fun p hp => k1 p (by simp [bkF] at hp; omega)) ⟨f0, f1, f2, v0, v1, v2, rfl, rfl, hj, hm, hs02.keep (fun y hy => k3 y (s0 y hy) (fun e => hb0 (e ▸ hy))), hs1.keep (fun y hy => k3 y (s1 y hy) (fun e => hb1 (e ▸ hy))), h22.keep (fun y hy => k3 y (s2 y hy) (fun e => hb2 (e ▸ hy)))⟩ (fun j u hj => ?_), ((hf0.more s0).trans (hf1.more s1)).trans k4⟩
    · have hyM : y ≠ M := fun e => hM (e ▸ hy)
      exact (k3 y hy hyb).trans ((hf1.2 y (fun h => hyf (by simp [h])) hyM).trans (hf0.2 y (fun h => hyf (by simp [h])) hyM))
    match j with
    | 0 =>
      simp at hj
      subst hj
      exact (k1 (k * 5) (by omega)).trans c0
    | 1 =>
      simp at hj
      subst hj
      exact (k1 (k * 5 + 1) (by omega)).trans c1
    | 2 =>
      simp at hj
      subst hj
      exact (k1 (k * 5 + 2) (by omega)).trans c2
    | 3 =>
      simp at hj
      subst hj
      exact k2
    | 4 =>
      simp at hj
      subst hj
      exact (k1 (k * 5 + 4) (by omega)).trans c4
    | j + 5 => simp at hj
/-- a list whose first p elements have been turned -/
def halfL {α : Type} (f : α → α) (l : List α) (p : Nat) : List α := (l.take p).map f ++ l.drop p
theorem half_zero {α : Type} (f : α → α) (l : List α) : halfL f l 0 = l := by simp [halfL]
theorem half_end {α : Type} (f : α → α) (l : List α) : halfL f l l.length = l.map f := by simp [halfL]
theorem half_get {α : Type} (f : α → α) (l : List α) {p : Nat} {a : α} (hp : p < l.length) (ha : l[p] = a) : (halfL f l p)[p]? = some a := by
  unfold halfL
  rw [List.getElem?_append_right (by simp; omega)]
  simp [Nat.min_eq_left (Nat.le_of_lt hp), ← ha, hp]
theorem half_set {α : Type} (f : α → α) (l : List α) {p : Nat} {a : α} (hp : p < l.length) (ha : l[p] = a) : (halfL f l p).set p (f a) = halfL f l (p + 1) := by
  subst ha
  unfold halfL
  have h1 : ((l.take p).map f).length = p := by simp; omega
  rw [List.set_append_right _ _ (by omega), h1, Nat.sub_self, List.drop_eq_getElem_cons hp, List.set_cons_zero, List.take_succ_eq_append_getElem hp, List.map_append, List.append_assoc]
  rfl
/-- the map M has the numbers of the list s -/
def MapSt (w : World) (M : Nat) (s : List Int) : Prop :=
  ∃ D : DataW Unit, w.ownsMap Try.prog 3 (plainElem Try.prog 3) M s.length D ∧ Maps.size D = s.length ∧ (∀ r, Maps.has D (.int .i64 r) = decide (r ∈ s)) ∧ ∀ r ∈ s, ∀ z, D.atKey (.int .i64 r) z = .lit (.int .i64 (numS s r))
theorem MapSt.keep {w w' : World} {M : Nat} {s : List Int} (h : MapSt w M s) (hk : w'.heap[M]? = w.heap[M]?) : MapSt w' M s := by
  obtain ⟨D, ⟨es, clock, hb, r⟩, h2⟩ := h
  exact ⟨D, ⟨es, clock, hk.trans hb, r⟩, h2⟩
theorem MapSt.lt {w : World} {M : Nat} {s : List Int} (h : MapSt w M s) : M < w.heap.size := by
  obtain ⟨D, h, _⟩ := h
  exact h.lt
theorem MapSt.made (w : World) : MapSt (w.alloc (.map #[] 0)) w.heap.size [] := ⟨.map [], World.ownsMap_made _ _ _ _, rfl, fun r => rfl, fun r hr => by cases hr⟩
theorem wf_of {n : Int} (h : I64 n) : (Lit.int .i64 n).wf = true := by
  unfold I64 at h
  simp [Lit.wf, IntKind.min, IntKind.max, IntKind.signed, IntKind.bits]
  omega
theorem law_int : Maps.Keyed Try.prog 3 := Maps.int_keyed Try.underlying3
theorem key_int {n : Int} (h : I64 n) : keyOf Try.prog 3 (.int .i64 n) = some (.int .i64 n) := Maps.keyOf_int_mk Try.underlying3 (wf_of h)
set_option maxRecDepth 100000 in
/-- what a look-up answers -/
theorem MapSt.look {w : World} {M : Nat} {s : List Int} (h : MapSt w M s) {r : Int} (hr : I64 r) : (Instr.lookup 75 (.map (some M)) (.int .i64 r) true).run Try.prog w = .ok (.tuple #[.int .i64 (if r ∈ s then numS s r else 0), .bool (decide (r ∈ s))]) w := by
  obtain ⟨D, hown, h1, h2, h3⟩ := h
  obtain ⟨v, ps, hrun, hv⟩ := hown.look_ok law_int Try.underlying75 (z := .int .i64 0) (by kernel_rfl) (plainElem_int Try.underlying3 (by decide)) (key_int hr)
  obtain ⟨c, rfl, hc, _⟩ := plainElem_int_inv Try.underlying3 hv
  have e := congrArg Prod.fst hc
  simp only at e
  rw [h2 r] at hrun
  by_cases hm : r ∈ s
  · rw [h3 r hm] at e
    injection e with e
    injection e with _ e
    rw [if_pos hm, e]
    exact hrun
  · have hno : Maps.has D (.int .i64 r) = false := by rw [h2]; simp [hm]
    rw [Maps.atKey_of_not_has hno] at e
    injection e with e
    injection e with _ e
    rw [if_neg hm, e]
    exact hrun
set_option maxRecDepth 100000 in
theorem MapSt.len {w : World} {M : Nat} {s : List Int} (h : MapSt w M s) (ty : TypeId) : (Builtin.len_ #[75] ty #[.map (some M)]).run Try.prog w = .ok (.int .i64 (s.length : Int)) w := by
  obtain ⟨D, hown, h1, _⟩ := h
  have := hown.len Try.underlying75 ty
  rw [h1] at this
  exact this
set_option maxRecDepth 100000 in
theorem MapSt.put {w : World} {M : Nat} {s : List Int} (h : MapSt w M s) {r : Int} (hr : I64 r) (hs : r ∉ s) (hl : s.length ≤ 1048576) : ∃ w', (Instr.mapUpdate 75 (.map (some M)) (.int .i64 r) (.int .i64 (s.length : Int))).run Try.prog w = .ok () w' ∧ MapSt w' M (s ++ [r]) ∧ Below 0 w w' ∧ ∀ x, x ≠ M → w'.heap[x]? = w.heap[x]? := by
  obtain ⟨D, hown, h1, h2, h3⟩ := h
  have hT := hown.tidy law_int
  have hK : WideAt.IsKeyLit (.int .i64 r) := law_int.key (key_int hr)
  have hno : Maps.has D (.int .i64 r) = false := by rw [h2]; simp [hs]
  obtain ⟨w', hrun, r1, r2⟩ := hown.store law_int Try.underlying75 (by unfold maxLen; omega) (key_int hr) (plainElem_int (H := Unit) (P := Try.prog) (e := 3) (q := .i64) (a := (s.length : Int)) Try.underlying3 (wf_of ⟨by omega, by omega⟩))
  have hg := r2.grown
  refine ⟨w', hrun, ⟨_, by rw [List.length_append, List.length_singleton]; exact r1, ?_, fun q => ?_, fun q hq z => ?_⟩, ⟨hg.os, hg.tape, hg.output, hg.size, fun k hk => absurd hk (Nat.not_lt_zero _)⟩, fun x hx => ?_⟩
  · rw [Maps.size_put hT, hno]
    simp [h1]
  · by_cases e : q = r
    · subst e
      rw [Maps.has_put_same hT.isMap hK]
      simp
    · rw [Maps.has_put_other (fun h => e (by injection h)), h2]
      simp [e]
  · by_cases e : q = r
    · subst e
      rw [Maps.atKey_put_same hT.isMap hK, num_new hs]
    · have hq' : q ∈ s := by
        rcases List.mem_append.1 hq with h | h
        · exact h
        · simp at h
          exact absurd h e
      rw [Maps.atKey_put_other (fun h => e (by injection h)), h3 q hq', num_pre (List.prefix_append _ _) hq']
  · obtain ⟨es, clock, es', clock', hb, rfl⟩ := r2
    exact Go.ChangeMaps.heap_setBlock_other hb _ hx
end Go.Proofs.Ytgcjccoglcgcoaa
