/-
  Lists of string: a slice of them in memory, and the laws' own functions over them (equality, marks).
-/
import Derived.Test.YthhfhdekhgkcaaaMark
namespace Go.Proofs.Ythhfhdekhgkcaaa
open Go.RowKit

def Texts.cell (x : ByteArray) : List Value := [.string x]
def Texts.flat (L : List ByteArray) : List Value := L.flatMap Texts.cell
theorem Texts.len (x : ByteArray) : (Texts.cell x).length = 1 := rfl
theorem Texts.ones (L : List ByteArray) : ∀ u ∈ Texts.flat L, u.oneCell' = true := by
  intro u hu
  simp only [Texts.flat, List.mem_flatMap, Texts.cell, List.mem_singleton] at hu
  obtain ⟨s, _, rfl⟩ := hu
  rfl
def Texts.At (w : World) (A : Option Addr) (L : List ByteArray) : Prop := Reads w 1 A L.length (Texts.flat L)
theorem Texts.At.below {w w' : World} {A : Option Addr} {L : List ByteArray} (h : Texts.At w A L) (hb : Below w.heap.size w w') : Texts.At w' A L := Reads.below h hb
theorem Texts.At.of_own {w : World} {A : Option Addr} {L : List ByteArray} {base : Nat} {e : TypeId} {cap : Nat} (h : w.ownsRow base e 1 (.slice A L.length cap) L.length (Texts.flat L)) : Texts.At w A L := Reads.of_own h
theorem Texts.At.at_ {w : World} {A : Option Addr} {L : List ByteArray} (h : Texts.At w A L) : ∀ k (hk : k < L.length), ∃ b off, A = some ⟨b, off, none⟩ ∧ b < w.heap.size ∧ w.cell? ⟨b, off + k, none⟩ = some (.string L[k]) := by
  intro k hk
  obtain ⟨b, off, e, hb, hc⟩ := h.2 (by omega)
  have g := flat_get Texts.cell 1 Texts.len L k 0 hk (by omega)
  rw [Nat.mul_one, Nat.add_zero] at g
  exact ⟨b, off, e, hb, hc k _ (g.trans rfl)⟩
theorem Texts.info : (Try.prog.info? 9).map (fun i => (i.zero, i.size, i.bytes)) = some (some (.string ⟨#[]⟩), 1, 16) := by kernel_rfl
def Texts.Made (w : World) (L : List ByteArray) (e : Ending) (w' : World) : Prop :=
  ∃ A cap, e = .returned (.slice A L.length cap) ∧ w'.ownsRow w.heap.size 9 1 (.slice A L.length cap) L.length (Texts.flat L) ∧ Below w.heap.size w w'

/-- .. with a code behind it. -/
def Texts.MadeC (w : World) (L : List ByteArray) (code : Int) (e : Ending) (w' : World) : Prop :=
  ∃ A cap, e = .returned (.tuple #[.slice A L.length cap, .int .i64 code]) ∧ w'.ownsRow w.heap.size 9 1 (.slice A L.length cap) L.length (Texts.flat L) ∧ Below w.heap.size w w'
theorem Texts.nilC {w w' : World} {code : Int} (hb : Below w.heap.size w w') : Texts.MadeC w [] code (.returned (.tuple #[.slice none 0 0, .int .i64 code])) w' :=
  ⟨none, 0, rfl, World.ownsRow_nil _ _ _ _, hb⟩

set_option maxHeartbeats 1000000 in
set_option maxRecDepth 100000 in
theorem eqStringS_same (A B : Option Addr) (ca cb : Nat) (L : List ByteArray) (w : World) (hA : Texts.At w A L) (hB : Texts.At w B L) (hlen : L.length ≤ 9223372036854775807) :
    Calls Try.prog 89 #[.slice A L.length ca, .slice B L.length cb] w fun e w' => e = .returned (.bool true) ∧ Below w.heap.size w w' := by
  have HA := Lib.hid hA.at_
  have HB := Lib.hid hB.at_
  clear hA hB
  go_enter Try.func89, Try.ntmps89
  go_wp2
  go_loopw [5] (fun i wr => ∃ k : Nat, k ≤ L.length ∧ i = .int .i64 k ∧ Below w.heap.size w wr) (fun i _ => L.length - (intOf i).toNat)
  case atStart => exact ⟨0, Nat.zero_le _, rfl, Below.refl _ _⟩
  case round =>
    obtain ⟨k, hk, rfl, hb⟩ := hrel
    by_cases hlt : k < L.length
    · obtain ⟨b, off, rfl, hlb, c0⟩ := HA.out k hlt
      obtain ⟨b', off', rfl, hlb', d0⟩ := HB.out k hlt
      replace c0 := fun x : BW wr => x.cell ((hb.cell hlb).trans c0)
      replace d0 := fun x : BW wr => x.cell ((hb.cell hlb').trans d0)
      go_wp2
      refine wp_region_bw (by kernel_rfl) (by kernel_rfl) ?_
      repeat (go_big_quiet_step (fail))
      refine wpQuiet_nil ?_
      intro wq hx
      have hq := bw_out hx
      clear hx c0 d0
      go_wp2
      go_roundw
      case rel => exact ⟨k + 1, by omega, by go_num, hb.trans (hq.mono hb.size)⟩
      case measure => simp [intOf]; omega
    · go_wp2
      go_ret
      exact ⟨rfl, hb⟩

def Texts.mark (q : Int) : ByteArray := markT q
def Texts.marks (m : Int) (n : Nat) : List ByteArray := (List.range n).map fun i => Texts.mark (m + (i : Nat))
theorem Texts.marks_len (m : Int) (n : Nat) : (Texts.marks m n).length = n := by simp [Texts.marks]

set_option maxHeartbeats 1000000 in
set_option maxRecDepth 100000 in
theorem markStringS_any (base : Nat) (A : Option Addr) (cap : Nat) (L : List ByteArray) (m : Int) (w : World) (hL : w.ownsRow base 9 1 (.slice A L.length cap) L.length (Texts.flat L)) (hlen : L.length ≤ 1048576) (h1 : 1 ≤ m) (h2 : m ≤ 10000000) :
    Calls Try.prog 91 #[.slice A L.length cap, .int .i64 m] w fun e w' => e = .returned (.int .i64 (m + (L.length : Nat))) ∧ w'.ownsRow base 9 1 (.slice A L.length cap) L.length (Texts.flat (Texts.marks m L.length)) ∧ w.grownBy w' (A.map (·.block)) := by
  have HS := Lib.hid (own_shape hL)
  go_enter Try.func91, Try.ntmps91
  go_wp2
  go_loopw [1, 5] (fun kk i wr => ∃ (k : Nat) (q : Int), k ≤ L.length ∧ i = .int .i64 k ∧ kk = .int .i64 q ∧ Hid (q = m + (k : Nat)) ∧ 1 ≤ q ∧ q ≤ 20000000 ∧ wr.ownsRow base 9 1 (.slice A L.length cap) L.length (Texts.flat (marksOf (fun i => Texts.mark (m + (i : Nat))) L k)) ∧ w.grownBy wr (A.map (·.block))) (fun _ i _ => L.length - (intOf i).toNat)
  case atStart => exact ⟨0, m, Nat.zero_le _, rfl, rfl, by simp [Hid], h1, by omega, by rw [marksOf_zero]; exact hL, World.grownBy.refl _ _⟩
  case round =>
    obtain ⟨k, q, hk, rfl, rfl, hq, hq1, hq2, hown, hgr⟩ := hrel
    by_cases hlt : k < L.length
    · obtain ⟨g, rfl, hg⟩ : ∃ g, A = some ⟨g, 0, none⟩ ∧ base ≤ g := by
        obtain ⟨A', cap', e, _, _, h⟩ := HS.out
        injection e with e1 e2 e3
        rcases h with ⟨_, h, _⟩ | ⟨g, rfl, hg, _⟩
        · omega
        · exact ⟨g, e1, hg⟩
      simp only [Option.map_some] at hgr
      have hqq : q + 1 ≤ 20000000 := by have := hq.out; omega
      have hM := marksOf_len (fun i => Texts.mark (m + (i : Nat))) L hk
      obtain ⟨M, hMM⟩ : ∃ M, M = marksOf (fun i => Texts.mark (m + (i : Nat))) L k := ⟨_, rfl⟩
      rw [← hMM] at hown hM
      have hkM : k < M.length := by omega
      have HM := Lib.hid hMM
      clear hMM hM
      have H0 := Lib.hid hown
      have G0 := Lib.hid hgr
      clear hown
      go_wp2_with fail
      refine (markText_any q (by omega) (by omega) _).mono ?_
      rintro e w1 ⟨rfl, hb1⟩
      have Q1 := own_below H0.out hb1
      have G1 := Lib.hid (grown_tr G0.out (grown_below (row := some g) hb1))
      have f := Q1.frozenAt
      obtain ⟨_, d0⟩ := own_cell_ex Q1 k (by omega)
      have H1 := Lib.hid Q1
      clear Q1 hb1
      go_wp2
      have R := own_wr [.string (markT q)] w1 _ k H1.out
      have E : Texts.flat (marksOf (fun i => Texts.mark (m + (i : Nat))) L (k + 1)) = wrL (Texts.flat M) k (Texts.cell (Texts.mark q)) := by
        have := flat_wr Texts.cell 1 Texts.len (Texts.mark q) M k hkM
        rw [Nat.mul_one] at this
        rw [Texts.flat, Texts.flat, this, HM.out, ← marksOf_succ _ _ hlt, hq.out]
      go_roundw
      case rel => exact ⟨k + 1, q + 1, by omega, by go_num, by go_num, (by have := hq.out; unfold Hid; omega), by omega, by omega, by rw [E]; exact R.1, grown_tr G1.out R.2⟩
      case measure => simp [intOf]; omega
    · obtain rfl : k = L.length := by omega
      go_wp2
      go_ret
      refine ⟨ret_i hq.out, ?_, hgr⟩
      rw [marksOf_all] at hown
      exact hown

set_option maxHeartbeats 1000000 in
set_option maxRecDepth 100000 in
theorem heldStringS_any (A : Option Addr) (cap : Nat) (n : Nat) (m : Int) (w : World) (hL : Texts.At w A (Texts.marks m n)) (hlen : n ≤ 1048576) (h1 : 1 ≤ m) (h2 : m ≤ 10000000) :
    Calls Try.prog 92 #[.slice A n cap, .int .i64 m] w fun e w' => e = .returned (.int .i64 (m + (n : Nat))) ∧ Below w.heap.size w w' := by
  have HL := Lib.hid hL.at_
  clear hL
  go_enter Try.func92, Try.ntmps92
  go_wp2
  go_loopw [1, 5] (fun kk i wr => ∃ (k : Nat) (q : Int), k ≤ n ∧ i = .int .i64 k ∧ kk = .int .i64 q ∧ Hid (q = m + (k : Nat)) ∧ 1 ≤ q ∧ q ≤ 20000000 ∧ Below w.heap.size w wr) (fun _ i _ => n - (intOf i).toNat)
  case atStart => exact ⟨0, m, Nat.zero_le _, rfl, rfl, by simp [Hid], h1, by omega, Below.refl _ _⟩
  case round =>
    obtain ⟨k, q, hk, rfl, rfl, hq, hq1, hq2, hb⟩ := hrel
    by_cases hlt : k < n
    · obtain ⟨b, off, rfl, hlb, c0⟩ := HL.out k (by rw [Texts.marks_len]; exact hlt)
      have hqq : q + 1 ≤ 20000000 := by have := hq.out; omega
      simp only [Texts.marks, List.getElem_map, List.getElem_range, ← hq.out, Texts.mark] at c0
      replace c0 := (hb.cell hlb).trans c0
      go_wp2
      have e1 := fun x : BW wr => x.cell c0
      refine wp_region_bw (by kernel_rfl) (by kernel_rfl) ?_
      repeat (go_big_quiet_step ((go_at_call 90; exact bw_of _ (markText_any q (by omega) (by omega) _))))
      refine wpQuiet_nil ?_
      intro w1 hx
      have hb1 := bw_out hx
      clear hx e1 c0
      go_wp2
      go_roundw
      case rel => exact ⟨k + 1, q + 1, by omega, by go_num, by go_num, (by have := hq.out; unfold Hid; omega), by omega, by omega, hb.trans (hb1.mono hb.size)⟩
      case measure => simp [intOf]; omega
    · obtain rfl : k = n := by omega
      go_wp2
      go_ret
      exact ⟨ret_i hq.out, hb⟩
end Go.Proofs.Ythhfhdekhgkcaaa
