/-
  Rows of sums: adding at an index, as a plain function and as a row of the call's own.
-/
import Derived.Test.YtfbafdnjjfmhjaaInts
namespace Go.Proofs.Ytfbafdnjjfmhjaa
open Go.RowKit

def addAt (T : List Int) (m : Nat) (v : Int) : List Int := T.set m (T.getD m 0 + v)
theorem addAt_len (T : List Int) (m : Nat) (v : Int) : (addAt T m v).length = T.length := by simp [addAt]
theorem getD_at {T : List Int} {m : Nat} (h : m < T.length) : T.getD m 0 = T[m] := by simp [List.getD_eq_getElem?_getD, h]
theorem getD_no {T : List Int} {m : Nat} (h : T.length ≤ m) : T.getD m 0 = 0 := by simp [List.getD_eq_getElem?_getD, h]
theorem addAt_bd {T : List Int} {m : Nat} {v b c : Int} (h : ∀ x ∈ T, 0 ≤ x ∧ x ≤ b) (hv : 0 ≤ v ∧ v ≤ c) (hb : 0 ≤ b) : ∀ x ∈ addAt T m v, 0 ≤ x ∧ x ≤ b + c := by
  intro x hx
  rcases List.mem_or_eq_of_mem_set hx with h1 | rfl
  · have := h x h1; omega
  · by_cases hm : m < T.length
    · have := h _ (List.getElem_mem hm)
      rw [getD_at hm]; omega
    · rw [getD_no (by omega)]; omega
/-- Sums over a list, entry by entry. -/
def sumsBy {α : Type} (at_ : α → Nat) (v : α → Int) (T : List Int) (L : List α) : List Int := L.foldl (fun T x => addAt T (at_ x) (v x)) T
theorem sums_len {α : Type} (at_ : α → Nat) (v : α → Int) (L : List α) : ∀ T : List Int, (sumsBy at_ v T L).length = T.length := by
  unfold sumsBy
  induction L with
  | nil => intro T; rfl
  | cons e L ih => intro T; rw [List.foldl_cons, ih, addAt_len]
theorem sums_step {α : Type} (at_ : α → Nat) (v : α → Int) (T : List Int) (L : List α) {k : Nat} (h : k < L.length) : sumsBy at_ v T (L.take (k + 1)) = addAt (sumsBy at_ v T (L.take k)) (at_ L[k]) (v L[k]) := by
  rw [List.take_succ_eq_append_getElem h, sumsBy, List.foldl_append]; rfl
theorem sums_bd {α : Type} (at_ : α → Nat) (v : α → Int) (c : Int) (hc : 0 ≤ c) : ∀ (L : List α) (T : List Int) (b : Int), (∀ e ∈ L, 0 ≤ v e ∧ v e ≤ c) → 0 ≤ b → (∀ x ∈ T, 0 ≤ x ∧ x ≤ b) → ∀ x ∈ sumsBy at_ v T L, 0 ≤ x ∧ x ≤ b + c * L.length
  | [], T, b, _, _, hT, x, hx => by have := hT x hx; simp; omega
  | e :: L, T, b, hM, hb, hT, x, hx => by
    have := sums_bd at_ v c hc L (addAt T (at_ e) (v e)) (b + c) (fun y hy => hM y (List.mem_cons_of_mem _ hy)) (by omega) (addAt_bd hT (hM e (List.mem_cons_self ..)) hb) x hx
    rw [List.length_cons, Int.natCast_add, Int.mul_add]
    omega
theorem rep_bd (n : Nat) : ∀ x ∈ List.replicate n (0 : Int), 0 ≤ x ∧ x ≤ 0 := by
  intro y hy; have := List.eq_of_mem_replicate hy; omega
theorem own_lit {w : World} {base : Nat} (cs : Array Value) (e : TypeId) (n : Nat) (hb : base ≤ w.heap.size) (hn : cs.size = n) (hm : n ≤ maxLen) : (w.alloc (.cells cs e)).ownsRow base e 1 (.slice (some ⟨w.heap.size, 0, none⟩) n n) n cs.toList :=
  ⟨by simp [hn], .inr ⟨w.heap.size, n, cs, rfl, hb, heap_alloc_new w _, Nat.le_refl _, hm, by omega, by rw [List.take_of_length_le]; simp [hn]⟩⟩
theorem row_at {w : World} {base g n : Nat} {e : TypeId} {T : List Int} {m : Nat} (v : Int) (hT : T.length = n) (hm : m < n) (h : w.ownsRow base e 1 (.slice (some ⟨g, 0, none⟩) n n) n (Ints.flat T)) :
    ∃ X, X ∈ T ∧ w.cell? ⟨g, m, none⟩ = some (.int .i64 X) ∧ addAt T m v = T.set m (X + v) := by
  subst hT
  refine ⟨T[m], List.getElem_mem _, ?_, by rw [addAt, getD_at hm]⟩
  obtain ⟨b', off', e, _, hc⟩ := (Ints.At.of_own h).at_ m hm
  injection e with e
  injection e with e1 e2
  rw [← e1, ← e2, Nat.zero_add] at hc
  exact hc
theorem row_set {w : World} {base g n : Nat} {e : TypeId} {T : List Int} {m : Nat} {v : Int} (hT : T.length = n) (hm : m < n) (h : w.ownsRow base e 1 (.slice (some ⟨g, 0, none⟩) n n) n (Ints.flat T)) :
    (w.setCell ⟨g, m, none⟩ (.int .i64 v)).ownsRow base e 1 (.slice (some ⟨g, 0, none⟩) n n) n (Ints.flat (T.set m v)) ∧ w.grownBy (w.setCell ⟨g, m, none⟩ (.int .i64 v)) (some g) := by
  refine ⟨?_, grown_set _ _ _ _⟩
  have := (h.stored m (.int .i64 v)).1
  have e := flat_set Ints.cell 1 Ints.len v 0 (.int .i64 v) (by omega) T m (by omega) rfl
  rw [Nat.mul_one, Nat.add_zero] at e
  rw [Ints.flat, ← e]
  exact this
end Go.Proofs.Ytfbafdnjjfmhjaa
