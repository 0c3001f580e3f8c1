/-
  markText, and words on marked lists.
-/
import Derived.Test.YthhfhdekhgkcaaaDays
namespace Go.Proofs.Ythhfhdekhgkcaaa
open Go.RowKit

def md : Nat → Nat → List UInt8 → List UInt8
  | 0, _, out => out
  | f + 1, k, out => if k = 0 then out else md f (k / 10) ((48 + UInt8.ofNat (k % 10)) :: out)
theorem md_zero (f : Nat) (out : List UInt8) : md f 0 out = out := by cases f <;> simp [md]
theorem md_step {f k : Nat} (out : List UInt8) (h0 : 0 < k) (hf : k ≤ f) : ∃ f', k / 10 ≤ f' ∧ md f k out = md f' (k / 10) ((48 + UInt8.ofNat (k % 10)) :: out) := by
  obtain ⟨g, rfl⟩ : ∃ g, f = g + 1 := ⟨f - 1, by omega⟩
  exact ⟨g, by omega, by rw [md, if_neg (by omega)]⟩
def markT (k : Int) : ByteArray := ⟨(109 :: md k.toNat k.toNat []).toArray⟩

theorem conv1 {P : Program} (src dst e : TypeId) (hs : P.underlying src = some (.slice e)) (he : P.underlying e = some (.int .u8)) (hd : P.underlying dst = some .string) (w : World) (n : Int) :
    (convert src dst (.slice (some ⟨w.heap.size, 0, none⟩) 1 1)).run P (w.alloc (.cells #[.int .u8 n] e)) = .ok (.string ⟨#[UInt8.ofNat n.toNat]⟩) (w.alloc (.cells #[.int .u8 n] e)) :=
  run_convert_bytes_arg (P := P) (w.alloc (.cells #[.int .u8 n] e)) src e hs he w.heap.size 0 1 1 [n] rfl (fun i hi => by
    obtain rfl : i = 0 := by omega
    exact World.cell?_alloc_mark w _ _ _ _) dst hd
theorem cons_bytes (b : UInt8) (l : List UInt8) : ((⟨#[b]⟩ : ByteArray) ++ ⟨l.toArray⟩) = ⟨(b :: l).toArray⟩ := ByteArray.mk_append_mk [b] l
theorem ret_s {a b : ByteArray} (h : a = b) : Ending.returned (.string a) = .returned (.string b) := by rw [h]

set_option maxHeartbeats 400000 in
theorem markText_any (k : Int) (h1 : 1 ≤ k) (h2 : k ≤ 100000000) (w : World) :
    Calls Try.prog 90 #[.int .i64 k] w fun e w' => e = .returned (.string (markT k)) ∧ Below w.heap.size w w' := by
  obtain ⟨K, rfl⟩ : ∃ K : Nat, k = (K : Int) := ⟨k.toNat, by omega⟩
  have hcv := conv1 (P := Try.prog) 109 9 5 Try.underlying109 Try.underlying5 Try.underlying9
  go_enter Try.func90, Try.ntmps90
  go_wp2
  go_loopw [0, 3] (fun k o wr => ∃ (j f : Nat) (out : List UInt8), k = .int .i64 j ∧ o = .string ⟨out.toArray⟩ ∧ j ≤ f ∧ out.length + j ≤ 100000000 ∧ Hid (md f j out = md K K []) ∧ Below w.heap.size w wr) (fun k _ _ => (intOf k).toNat)
  case atStart => exact ⟨K, K, [], rfl, rfl, Nat.le_refl _, by simp; omega, rfl, Below.refl _ _⟩
  case round =>
    obtain ⟨j, f, out, rfl, rfl, hj, hl, hm, hb⟩ := hrel
    by_cases hlt : 0 < j
    · go_wp2
      obtain ⟨f', hf1, hf2⟩ := md_step out hlt hj
      go_roundw
      case rel =>
        refine ⟨j / 10, f', (48 + UInt8.ofNat (j % 10)) :: out, by go_num, ?_, hf1, by simp; omega, hf2.symm.trans hm.out, hb.alloc hb.size _⟩
        exact congrArg Value.string (cons_bytes _ _)
      case measure => simp [intOf]; omega
    · obtain rfl : j = 0 := by omega
      go_wp2
      go_ret
      refine ⟨ret_s ?_, hb⟩
      have he := hm.out
      rw [md_zero] at he
      rw [he]
      exact cons_bytes _ _

def marksOf {α : Type} (mk : Nat → α) (L : List α) (k : Nat) : List α := (List.range k).map mk ++ L.drop k
section
variable {α : Type} (mk : Nat → α) (L : List α)
theorem marksOf_zero : marksOf mk L 0 = L := by simp [marksOf]
theorem marksOf_len {k : Nat} (h : k ≤ L.length) : (marksOf mk L k).length = L.length := by simp [marksOf]; omega
theorem marksOf_all : marksOf mk L L.length = (List.range L.length).map mk := by simp [marksOf]
theorem marksOf_succ {k : Nat} (h : k < L.length) : (marksOf mk L k).set k (mk k) = marksOf mk L (k + 1) := by
  unfold marksOf
  rw [List.set_append_right _ _ (by simp), List.length_map, List.length_range, Nat.sub_self, List.drop_eq_getElem_cons h, List.set_cons_zero, List.range_succ, List.map_append, List.append_assoc]
  rfl
end

theorem copy_step {α : Type} {L : List α} {k : Nat} (z : α) (h : k < L.length) : (L.take k ++ List.replicate (L.length - k) z).set k L[k] = L.take (k + 1) ++ List.replicate (L.length - (k + 1)) z := by
  have e : (L.take k).length = k := by rw [List.length_take]; omega
  rw [List.set_append_right _ _ (by omega), e, Nat.sub_self, show L.length - k = (L.length - (k + 1)) + 1 from by omega, List.replicate_succ, List.set_cons_zero, List.take_succ_eq_append_getElem h, List.append_assoc]
  rfl
theorem own_cell_ex {w : World} {base : Nat} {e : TypeId} {size g n cap : Nat} {xs : List Value} (h : w.ownsRow base e size (.slice (some ⟨g, 0, none⟩) n cap) n xs) (i : Nat) (hi : i < n * size) : ∃ u, w.cell? ⟨g, i, none⟩ = some u := by
  rw [h.cellAt i hi]
  exact ⟨_, List.getElem?_eq_getElem (by rw [h.1]; exact hi)⟩
/-- What a size function leaves: a number that is negative, or says that all is small. -/
def SzPost (ok : Prop) (left : Int) (w : World) (e : Ending) (w' : World) : Prop := ∃ r : Int, e = .returned (.int .i64 r) ∧ -1 ≤ r ∧ r ≤ left ∧ Hid (0 ≤ r → ok) ∧ Below w.heap.size w w'
end Go.Proofs.Ythhfhdekhgkcaaa
