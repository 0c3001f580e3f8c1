/-
  Lists of int64: a slice of them in memory, and the laws' own functions over them (equality, marks).
-/
import Derived.Test.YtecdneaheeepdaaMark
namespace Go.Proofs.Ytecdneaheeepdaa
open Go.RowKit

def Ints.cell (x : Int) : List Value := [.int .i64 x]
def Ints.flat (L : List Int) : List Value := L.flatMap Ints.cell
theorem Ints.len (x : Int) : (Ints.cell x).length = 1 := rfl
theorem Ints.ones (L : List Int) : ∀ u ∈ Ints.flat L, u.oneCell' = true := by
  intro u hu
  simp only [Ints.flat, List.mem_flatMap, Ints.cell, List.mem_singleton] at hu
  obtain ⟨s, _, rfl⟩ := hu
  rfl
def Ints.At (w : World) (A : Option Addr) (L : List Int) : Prop := Reads w 1 A L.length (Ints.flat L)
theorem Ints.At.below {w w' : World} {A : Option Addr} {L : List Int} (h : Ints.At w A L) (hb : Below w.heap.size w w') : Ints.At w' A L := Reads.below h hb
theorem Ints.At.of_own {w : World} {A : Option Addr} {L : List Int} {base : Nat} {e : TypeId} {cap : Nat} (h : w.ownsRow base e 1 (.slice A L.length cap) L.length (Ints.flat L)) : Ints.At w A L := Reads.of_own h
theorem Ints.At.at_ {w : World} {A : Option Addr} {L : List Int} (h : Ints.At w A L) : ∀ k (hk : k < L.length), ∃ b off, A = some ⟨b, off, none⟩ ∧ b < w.heap.size ∧ w.cell? ⟨b, off + k, none⟩ = some (.int .i64 L[k]) := by
  intro k hk
  obtain ⟨b, off, e, hb, hc⟩ := h.2 (by omega)
  have g := flat_get Ints.cell 1 Ints.len L k 0 hk (by omega)
  rw [Nat.mul_one, Nat.add_zero] at g
  exact ⟨b, off, e, hb, hc k _ (g.trans rfl)⟩
theorem Ints.info : (Try.prog.info? 2).map (fun i => (i.zero, i.size, i.bytes)) = some (some (.int .i64 0), 1, 8) := by kernel_rfl
def Ints.Made (w : World) (L : List Int) (e : Ending) (w' : World) : Prop :=
  ∃ A cap, e = .returned (.slice A L.length cap) ∧ w'.ownsRow w.heap.size 2 1 (.slice A L.length cap) L.length (Ints.flat L) ∧ Below w.heap.size w w'

/-- .. with a code behind it. -/
def Ints.MadeC (w : World) (L : List Int) (code : Int) (e : Ending) (w' : World) : Prop :=
  ∃ A cap, e = .returned (.tuple #[.slice A L.length cap, .int .i64 code]) ∧ w'.ownsRow w.heap.size 2 1 (.slice A L.length cap) L.length (Ints.flat L) ∧ Below w.heap.size w w'
theorem Ints.nilC {w w' : World} {code : Int} (hb : Below w.heap.size w w') : Ints.MadeC w [] code (.returned (.tuple #[.slice none 0 0, .int .i64 code])) w' :=
  ⟨none, 0, rfl, World.ownsRow_nil _ _ _ _, hb⟩


def Ints.mark (q : Int) : Int := q
def Ints.marks (m : Int) (n : Nat) : List Int := (List.range n).map fun i => Ints.mark (m + (i : Nat))
theorem Ints.marks_len (m : Int) (n : Nat) : (Ints.marks m n).length = n := by simp [Ints.marks]


end Go.Proofs.Ytecdneaheeepdaa
