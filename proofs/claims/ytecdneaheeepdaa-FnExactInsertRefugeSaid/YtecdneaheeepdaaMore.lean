/-
  More words that do not speak of the program.
-/
import Derived.Test.YtecdneaheeepdaaBase
import Derived.Deep.CutRange
import Derived.Deep.RegionLaw
namespace Go.Proofs.Ytecdneaheeepdaa
open Go.RowKit

theorem reads_new (w : World) (cs : Array Value) (T : TypeId) {size : Nat} (h : cs.size = 1 * size) : Reads (w.alloc (.cells cs T)) size (some ⟨w.heap.size, 0, none⟩) 1 cs.toList :=
  ⟨by simpa using h, fun _ => ⟨_, 0, rfl, by simp, fun j u hu => by rw [World.cell?_alloc_mark, Nat.zero_add]; simpa using hu⟩⟩
theorem reads_grown {w w' : World} {size n : Nat} {b : Nat} {xs : List Value} {row : Option Nat} (h : Reads w size (some ⟨b, 0, none⟩) n xs) (hg : w.grownBy w' row) (hne : some b ≠ row) : Reads w' size (some ⟨b, 0, none⟩) n xs :=
  ⟨h.1, fun h0 => by
    obtain ⟨b', off, e, hlt, hc⟩ := h.2 h0
    injection e with e
    injection e with e1 e2
    subst e1; subst e2
    exact ⟨_, _, rfl, Nat.lt_of_lt_of_le hlt hg.size, fun j u hu => hg.cell (hc j u hu) hne⟩⟩
theorem own_new (w : World) (base : Nat) (e : TypeId) (size : Nat) (h : base ≤ w.heap.size) : (w.alloc (.cells #[] e)).ownsRow base e size (.slice (some ⟨w.heap.size, 0, none⟩) 0 0) 0 [] :=
  World.ownsRow_made w #[] 0 h (by unfold maxLen; omega) (by simp)
theorem own_caps {w : World} {base : Nat} {e : TypeId} {size n c : Nat} {A : Option Addr} {xs : List Value} (h : w.ownsRow base e size (.slice A n c) n xs) : n ≤ c ∧ c ≤ 9223372036854775807 := by
  obtain ⟨A', c', hv, h1, h2, _⟩ := own_shape h
  injection hv with e1 e2 e3
  subst e3
  unfold maxLen at h2
  exact ⟨h1, h2⟩
end Go.Proofs.Ytecdneaheeepdaa
