/-
  More words that do not speak of the program.
-/
import Derived.Test.YthhfhdekhgkcaaaBase
import Derived.Deep.CutRange
import Derived.Deep.RegionLaw
namespace Go.Proofs.Ythhfhdekhgkcaaa
open Go.RowKit

theorem reads_new (w : World) (cs : Array Value) (T : TypeId) {size : Nat} (h : cs.size = 1 * size) : Reads (w.alloc (.cells cs T)) size (some ⟨w.heap.size, 0, none⟩) 1 cs.toList :=
  ⟨by simpa using h, fun _ => ⟨_, 0, rfl, by simp, fun j u hu => by rw [World.cell?_alloc_mark, Nat.zero_add]; simpa using hu⟩⟩
theorem reads_grown {w w' : World} {size n : Nat} {b : Nat} {xs : List Value} {row : Option Nat} (h : Reads w size (some ⟨b, 0, none⟩) n xs) (hg : w.grownBy w' row) (hne : some b ≠ row) : Reads w' size (some ⟨b, 0, none⟩) n xs :=
  ⟨h.1, fun h0 => by
    obtain ⟨b', off, e, hlt, hc⟩ := h.2 h0
    injection e with e
    injection e with e1 e2
    subst e1; subst e2
    exact ⟨_, _, rfl, Nat.lt_of_lt_of_le hlt hg.size, fun j u hu => hg.cell (hc j u hu) hne⟩⟩
theorem own_new (w : World) (base : Nat) (e : TypeId) (size : Nat) (h : base ≤ w.heap.size) : (w.alloc (.cells #[] e)).ownsRow base e size (.slice (some ⟨w.heap.size, 0, none⟩) 0 0) 0 [] :=
  World.ownsRow_made w #[] 0 h (by unfold maxLen; omega) (by simp)
theorem idxs_count {α : Type} (p : α → Bool) (L : List α) : (idxs p L).length = L.countP p := by
  unfold idxs
  rw [List.length_map, List.countP_eq_length_filter]
  conv => rhs; rw [← List.zipIdx_map_fst 0 L, List.filter_map, List.length_map]
  rfl
theorem count_take {α : Type} (p : α → Bool) (L : List α) {k : Nat} (h : k < L.length) : (L.take (k + 1)).countP p = (L.take k).countP p + (if p L[k] then 1 else 0) := by
  rw [List.take_succ_eq_append_getElem h, List.countP_append]; simp [List.countP_cons]

theorem calls_v {P : Program} {f : FuncId} {args : Array Value} {w : World} {v v' : Value} {R : World → Prop} (e : v = v') (h : Calls P f args w fun e w' => e = .returned v ∧ R w') : Calls P f args w fun e w' => e = .returned v' ∧ R w' := by rwa [e] at h
theorem Reads.none_' {w : World} {size : Nat} {A : Option Addr} : Reads w size A 0 [] := ⟨by simp, fun h => absurd h (by omega)⟩
theorem drop_end {W : World} {n size b off : Nat} {xs : List Value} (h : Reads W size (some ⟨b, off, none⟩) n xs) {A : Option Addr} {k : Nat} (hk : k = n) : Reads W size A 0 (xs.drop (k * size)) := by
  subst hk
  have e1 : xs.drop (k * size) = [] := List.drop_eq_nil_of_le (by rw [h.1]; exact Nat.le_refl _)
  rw [e1]
  exact Reads.none_'
theorem own_caps {w : World} {base : Nat} {e : TypeId} {size n c : Nat} {A : Option Addr} {xs : List Value} (h : w.ownsRow base e size (.slice A n c) n xs) : n ≤ c ∧ c ≤ 9223372036854775807 := by
  obtain ⟨A', c', hv, h1, h2, _⟩ := own_shape h
  injection hv with e1 e2 e3
  subst e3
  unfold maxLen at h2
  exact ⟨h1, h2⟩
end Go.Proofs.Ythhfhdekhgkcaaa
