/-
  Chains and decisions on both sides.
-/
import Derived.Test.YthhfhdekhgkcaaaRuleFind
import Derived.Test.YthhfhdekhgkcaaaTexts
import Derived.Test.YthhfhdekhgkcaaaMore
namespace Go.Proofs.Ythhfhdekhgkcaaa
open Go.RowKit

section
variable {w W : World} {cs : Array Value} {T : TypeId}
theorem b1_cell (h : Below (w.heap.size + 1) (w.alloc (.cells cs T)) W) {j : Nat} {v : Value} (hc : (w.alloc (.cells cs T)).cell? ⟨w.heap.size, j, none⟩ = some v) : W.cell? ⟨w.heap.size, j, none⟩ = some v :=
  (h.cell (Nat.lt_succ_self _)).trans hc
theorem b1_size (h : Below (w.heap.size + 1) (w.alloc (.cells cs T)) W) : w.heap.size + 1 ≤ W.heap.size := by have := h.size; simpa using this
theorem b1_below (h : Below (w.heap.size + 1) (w.alloc (.cells cs T)) W) : Below w.heap.size w W := ((Below.refl _ _).alloc (Nat.le_refl _) _).trans (h.mono (by omega))
theorem b1_refl : Below (w.heap.size + 1) (w.alloc (.cells cs T)) (w.alloc (.cells cs T)) := Below.refl _ _
end
/-- A decision that the call made. -/
def DecMade (w : World) (r : Int) (M : List ByteArray) (e : Ending) (w' : World) : Prop :=
  ∃ A cap, e = .returned (.agg #[.int .i64 r, .slice A M.length cap]) ∧ w'.ownsRow w.heap.size 9 1 (.slice A M.length cap) M.length (Texts.flat M) ∧ Below w.heap.size w w'
theorem dec_fin {w W : World} {r : Int} {M : List ByteArray} {n : Nat} {A : Option Addr} {cap : Nat} {u v : Value} (hn : M.length = n) (h : W.ownsRow (w.heap.size + 2) 9 1 (.slice A n cap) n (Texts.flat M)) (hb : Below w.heap.size w W) :
    DecMade w r M (.returned (.agg #[.int .i64 r, .slice A n cap])) ((W.setCell ⟨w.heap.size + 1, 0, none⟩ u).setCell ⟨w.heap.size + 1, 1, none⟩ v) := by
  subst hn
  have hg : W.grownBy ((W.setCell ⟨w.heap.size + 1, 0, none⟩ u).setCell ⟨w.heap.size + 1, 1, none⟩ v) (some (w.heap.size + 1)) := grown_tr (grown_set _ _ _ _) (grown_set _ _ _ _)
  refine ⟨A, cap, rfl, own_base (own_kept h hg ?_) (by omega), hb.grown hg hb.size (fun g hg' => by injection hg' with e; omega)⟩
  cases hA : A.map (·.block) with
  | none => exact .inl rfl
  | some x =>
    refine .inr fun e => ?_
    injection e with e
    have := (h.lt x (by rw [ownBlock_map]; exact hA)).1
    omega
section
variable {w W : World} {cs ds : Array Value} {T U : TypeId}
theorem b2_cell (h : Below (w.heap.size + 2) ((w.alloc (.cells cs T)).alloc (.cells ds U)) W) {j : Nat} {v : Value} (hc : (w.alloc (.cells cs T)).cell? ⟨w.heap.size, j, none⟩ = some v) : W.cell? ⟨w.heap.size, j, none⟩ = some v :=
  (h.cell (by show w.heap.size < w.heap.size + 2; omega)).trans (below_cell ((Below.refl _ _).alloc (Nat.le_refl _) _) hc)
theorem b2_cell1 (h : Below (w.heap.size + 2) ((w.alloc (.cells cs T)).alloc (.cells ds U)) W) {j : Nat} {v : Value} (hc : ds[j]? = some v) : W.cell? ⟨w.heap.size + 1, j, none⟩ = some v := by
  have h1 := made_cell (w.alloc (.cells cs T)) ds U j v hc
  rw [World.size_alloc] at h1
  exact (h.cell (by show w.heap.size + 1 < w.heap.size + 2; omega)).trans h1
theorem b2_size (h : Below (w.heap.size + 2) ((w.alloc (.cells cs T)).alloc (.cells ds U)) W) : w.heap.size + 2 ≤ W.heap.size := by have := h.size; simpa using this
theorem b2_below (h : Below (w.heap.size + 2) ((w.alloc (.cells cs T)).alloc (.cells ds U)) W) : Below w.heap.size w W := (((Below.refl _ _).alloc (Nat.le_refl _) _).alloc (by simp) _).trans (h.mono (by omega))
theorem b2_frozen (h : Below (w.heap.size + 2) ((w.alloc (.cells cs T)).alloc (.cells ds U)) W) (j : Nat) : W.frozen? ⟨w.heap.size + 1, j, none⟩ = false := by
  rw [h.frozen (p := ⟨w.heap.size + 1, j, none⟩) (by show w.heap.size + 1 < w.heap.size + 2; omega)]
  exact frozen_of_row _ _ _ ds U (by rw [← World.size_alloc w (.cells cs T)]; exact heap_alloc_new _ _)
end
theorem ch_end {L : List Clause} {e : Event} {n k f : Nat} (hf : firstN L e k = f) (h : f < L.length) (h3 : L[f].result ≠ 3) : chainN L e (n + 1) k = [f] := by
  rw [chainN, hf, resAt_eq h, if_neg h3]
theorem ch_go {L : List Clause} {e : Event} {n k f : Nat} (hf : firstN L e k = f) (h : f < L.length) (h3 : L[f].result = 3) : chainN L e (n + 1) k = f :: chainN L e n (findN L L[f].to) := by
  rw [chainN, hf, resAt_eq h, if_pos h3, toAt_eq h]
def ints (M : List Nat) : List Int := M.map Int.ofNat
theorem ints_len (M : List Nat) : (ints M).length = M.length := by simp [ints]
theorem ints_flat_app (M : List Nat) (f : Nat) : Ints.flat (ints (M ++ [f])) = Ints.flat (ints M) ++ [.int .i64 f] := by simp [ints, Ints.flat, Ints.cell]
theorem texts_flat_app (M : List ByteArray) (s : ByteArray) : Texts.flat (M ++ [s]) = Texts.flat M ++ [.string s] := by simp [Texts.flat, Texts.cell]
theorem chain_last {L : List Clause} {e : Event} {M : List Nat} {f : Nat} (h : chain L e = M ++ [f]) (hf : f < L.length) : chainRes L e = L[f].result := by
  rw [chainRes, h]; simp [resAt_eq hf]


set_option maxHeartbeats 2000000 in
set_option maxRecDepth 100000 in
theorem chain_spec (A : Option Addr) (cap : Nat) (L : List Clause) (e : Event) (w : World) (hL : Clause.At w A L) (R : Rule L) :
    Calls Try.prog 82 #[.slice A L.length cap, e.val] w (Ints.Made w (ints (chain L e))) := by
  have HL := Lib.hid hL.at_
  have HA := Lib.hid hL
  have HR := Lib.hid R
  have hle := R.le
  have hpos := R.pos
  obtain ⟨i0, hi, hz0, hz1, hz2⟩ := info_parts Ints.info
  have E0 := Lib.hid (made_cell w #[.int .i64 e.day, .int .i64 e.kind, .string e.interest, .int .i64 e.amount, .bool e.peril, .bool e.voluntary, .bool e.reasonable] 34 0 (.int .i64 e.day) rfl)
  have E1 := Lib.hid (made_cell w #[.int .i64 e.day, .int .i64 e.kind, .string e.interest, .int .i64 e.amount, .bool e.peril, .bool e.voluntary, .bool e.reasonable] 34 1 (.int .i64 e.kind) rfl)
  have E2 := Lib.hid (made_cell w #[.int .i64 e.day, .int .i64 e.kind, .string e.interest, .int .i64 e.amount, .bool e.peril, .bool e.voluntary, .bool e.reasonable] 34 2 (.string e.interest) rfl)
  have E3 := Lib.hid (made_cell w #[.int .i64 e.day, .int .i64 e.kind, .string e.interest, .int .i64 e.amount, .bool e.peril, .bool e.voluntary, .bool e.reasonable] 34 3 (.int .i64 e.amount) rfl)
  have E4 := Lib.hid (made_cell w #[.int .i64 e.day, .int .i64 e.kind, .string e.interest, .int .i64 e.amount, .bool e.peril, .bool e.voluntary, .bool e.reasonable] 34 4 (.bool e.peril) rfl)
  have E5 := Lib.hid (made_cell w #[.int .i64 e.day, .int .i64 e.kind, .string e.interest, .int .i64 e.amount, .bool e.peril, .bool e.voluntary, .bool e.reasonable] 34 5 (.bool e.voluntary) rfl)
  have E6 := Lib.hid (made_cell w #[.int .i64 e.day, .int .i64 e.kind, .string e.interest, .int .i64 e.amount, .bool e.peril, .bool e.voluntary, .bool e.reasonable] 34 6 (.bool e.reasonable) rfl)
  have ho := own_new (w.alloc (.cells #[.int .i64 e.day, .int .i64 e.kind, .string e.interest, .int .i64 e.amount, .bool e.peril, .bool e.voluntary, .bool e.reasonable] 34)) (w.heap.size + 1) 2 1 (by simp)
  simp only [World.size_alloc] at ho
  have HO := Lib.hid ho
  clear hL R ho
  go_enter Try.func82, Try.ntmps82
  go_wp2
  go_loopw [5, 6] (fun o a wr => ∃ (k n : Nat) (M : List Nat) (B : Option Addr) (cb : Nat), k < L.length ∧ a = .int .i64 k ∧ L.length ≤ n + k ∧ M.length ≤ k ∧ o = .slice B M.length cb ∧ Hid (wr.ownsRow (w.heap.size + 1) 2 1 (.slice B M.length cb) M.length (Ints.flat (ints M))) ∧ Hid (chain L e = M ++ chainN L e n k) ∧ Hid (Below (w.heap.size + 1) (w.alloc (.cells #[.int .i64 e.day, .int .i64 e.kind, .string e.interest, .int .i64 e.amount, .bool e.peril, .bool e.voluntary, .bool e.reasonable] 34)) wr)) (fun _ a _ => L.length - (intOf a).toNat)
  case atStart => exact ⟨0, L.length, [], _, _, by omega, rfl, by omega, Nat.le_refl _, rfl, HO, (by simp [Hid, chain]), Lib.hid (b1_refl.alloc (by simp) _)⟩
  case round =>
    obtain ⟨k, n, M, B, cb, hk, rfl, hn, hM, rfl, HW, HE, HX⟩ := hrel
    obtain ⟨n, rfl⟩ : ∃ m, n = m + 1 := ⟨n - 1, by omega⟩
    obtain ⟨f, hf⟩ : ∃ f, firstN L e k = f := ⟨_, rfl⟩
    have hfl : f < L.length := by rw [← hf]; exact first_lt HR.out e hk
    have hkf : k ≤ f := by rw [← hf]; exact first_ge L e k
    have C1 := first_spec A cap L k e wr (HA.out.below (b1_below HX.out)) HR.out hk
    rw [hf] at C1
    have HC1 := Lib.hid C1
    have HF := Lib.hid hf
    clear C1 hf
    have e0 := b1_cell HX.out E0.out
    have e1 := b1_cell HX.out E1.out
    have e2 := b1_cell HX.out E2.out
    have e3 := b1_cell HX.out E3.out
    have e4 := b1_cell HX.out E4.out
    have e5 := b1_cell HX.out E5.out
    have e6 := b1_cell HX.out E6.out
    go_wp2_with fail
    refine HC1.out.mono ?_
    rintro e' w1 ⟨rfl, hb1⟩
    have HX1 := Lib.hid (HX.out.trans (hb1.mono (b1_size HX.out)))
    have own1 := own_below HW.out hb1
    clear hb1 e0 e1 e2 e3 e4 e5 e6
    have HS1 := Lib.hid (b1_size HX1.out)
    have H1 := Lib.hid (own1.alloc (.cells #[(Value.int .i64 (f : Nat))] 2))
    have hs1 := HS1.out
    go_wp2_with (at_builtin; refine wpList_append_own _ rfl _ _ 73 rfl (w.heap.size + 1) 2 i0 _ 1 8 Try.underlying73 hi hz0 hz1 hz2 rfl (by decide) _ _ _ rfl H1.out ⟨w1.heap.size, 0, none⟩ 1 1 [(Value.int .i64 (f : Nat))] rfl rfl ?c1 ?c2 ?c3 ?c4 ?c5 ?_)
    case c1 => exact cell_one_new _ _ _
    case c2 => intro u hu; simp at hu; subst hu; rfl
    case c3 => unfold maxLen; omega
    case c4 => omega
    case c5 => simp; omega
    intro v' w2 hown' hgr hnil
    have HX2 := Lib.hid ((HX1.out.alloc HS1.out (.cells #[(Value.int .i64 (f : Nat))] 2)).grown hgr (by simp; omega) (fun g hg => (own1.lt g hg).1))
    obtain ⟨A2, cb2, rfl, _⟩ := own_shape hown'
    have H2 := Lib.hid hown'
    clear hown' hgr hnil hs1
    have HG : Hid (Ints.flat (ints M) ++ [(Value.int .i64 (f : Nat))] = Ints.flat (ints (M ++ [f]))) := (ints_flat_app M f).symm
    obtain ⟨b, off, hA, hlb, c0, c1, c2, c3, c4, c5, c6⟩ := HL.out f hfl
    subst hA
    replace c0 := ((b1_below HX2.out).cell hlb).trans c0
    replace c1 := ((b1_below HX2.out).cell hlb).trans c1
    replace c2 := ((b1_below HX2.out).cell hlb).trans c2
    replace c3 := ((b1_below HX2.out).cell hlb).trans c3
    replace c4 := ((b1_below HX2.out).cell hlb).trans c4
    replace c5 := ((b1_below HX2.out).cell hlb).trans c5
    replace c6 := ((b1_below HX2.out).cell hlb).trans c6
    clear own1
    cases h3 : (L[f].result == 3)
    · have n3 : (L[f].result != 3) = true := by rw [bne, h3]; rfl
      have HN : Hid (L[f].result ≠ 3) := by unfold Hid; simpa using h3
      go_wp2
      go_ret
      have hE : chain L e = M ++ [f] := by rw [HE.out, ch_end HF.out hfl HN.out]
      rw [hE]
      have h2 := H2.out
      rw [HG.out] at h2
      refine ⟨A2, cb2, ?_, ?_, b1_below HX2.out⟩
      · rw [ints_len, List.length_append]; rfl
      · rw [ints_len, List.length_append]; exact own_base h2 (by omega)
    · have n3 : (L[f].result != 3) = false := by rw [bne, h3]; rfl
      have h33 : L[f].result = 3 := by simpa using h3
      obtain ⟨g1, g2, g3⟩ := find_go HR.out hfl h33
      have C2 := find_spec (some ⟨b, off, none⟩) cap L L[f].to w2 (HA.out.below (b1_below HX2.out)) (by omega)
      rw [g1] at C2
      have HC2 := Lib.hid C2
      have HGO : Hid (chainN L e (n + 1) k = f :: chainN L e n (findN L L[f].to)) := ch_go HF.out hfl h33
      clear C2 g1 h33
      generalize findN L L[f].to = k2 at g2 g3 HC2 HGO
      go_wp2_with fail
      refine HC2.out.mono ?_
      rintro e' w3 ⟨rfl, rfl⟩
      go_wp2
      go_roundw
      case rel =>
        refine ⟨k2, n, M ++ [f], A2, cb2, g3, rfl, by omega, by simp; omega, by rw [List.length_append]; rfl, ?_, ?_, HX2⟩
        · have h2 := H2.out
          rw [HG.out] at h2
          rw [List.length_append]
          exact Lib.hid h2
        · unfold Hid
          rw [HE.out, HGO.out]; simp
      case measure => simp [intOf]; omega

set_option maxHeartbeats 2000000 in
set_option maxRecDepth 100000 in
theorem decide_impl (b off cap : Nat) (L : List Clause) (e : Event) (w : World) (hL : Clause.At w (some ⟨b, off, none⟩) L) (R : Rule L) (hcap : L.length ≤ cap) (hcm : cap ≤ 9223372036854775807) :
    Calls Try.prog 87 #[.slice (some ⟨b, off, none⟩) L.length cap, e.val] w (DecMade w (chainRes L e) (chainCodes L e)) := by
  have HL := Lib.hid hL.at_
  have HA := Lib.hid hL
  have HR := Lib.hid R
  have hle := R.le
  have hpos := R.pos
  obtain ⟨i0, hi, hz0, hz1, hz2⟩ := info_parts Texts.info
  have E0 := Lib.hid (made_cell w #[.int .i64 e.day, .int .i64 e.kind, .string e.interest, .int .i64 e.amount, .bool e.peril, .bool e.voluntary, .bool e.reasonable] 34 0 (.int .i64 e.day) rfl)
  have E1 := Lib.hid (made_cell w #[.int .i64 e.day, .int .i64 e.kind, .string e.interest, .int .i64 e.amount, .bool e.peril, .bool e.voluntary, .bool e.reasonable] 34 1 (.int .i64 e.kind) rfl)
  have E2 := Lib.hid (made_cell w #[.int .i64 e.day, .int .i64 e.kind, .string e.interest, .int .i64 e.amount, .bool e.peril, .bool e.voluntary, .bool e.reasonable] 34 2 (.string e.interest) rfl)
  have E3 := Lib.hid (made_cell w #[.int .i64 e.day, .int .i64 e.kind, .string e.interest, .int .i64 e.amount, .bool e.peril, .bool e.voluntary, .bool e.reasonable] 34 3 (.int .i64 e.amount) rfl)
  have E4 := Lib.hid (made_cell w #[.int .i64 e.day, .int .i64 e.kind, .string e.interest, .int .i64 e.amount, .bool e.peril, .bool e.voluntary, .bool e.reasonable] 34 4 (.bool e.peril) rfl)
  have E5 := Lib.hid (made_cell w #[.int .i64 e.day, .int .i64 e.kind, .string e.interest, .int .i64 e.amount, .bool e.peril, .bool e.voluntary, .bool e.reasonable] 34 5 (.bool e.voluntary) rfl)
  have E6 := Lib.hid (made_cell w #[.int .i64 e.day, .int .i64 e.kind, .string e.interest, .int .i64 e.amount, .bool e.peril, .bool e.voluntary, .bool e.reasonable] 34 6 (.bool e.reasonable) rfl)
  have ho := own_new (((w.alloc (.cells #[.int .i64 e.day, .int .i64 e.kind, .string e.interest, .int .i64 e.amount, .bool e.peril, .bool e.voluntary, .bool e.reasonable] 34))).alloc (.cells #[.int .i64 0, .slice none 0 0] 53)) (w.heap.size + 2) 9 1 (by simp)
  simp only [World.size_alloc] at ho
  have HO := Lib.hid ho
  clear hL R ho
  go_enter Try.func87, Try.ntmps87
  go_wp2
  go_loopw [5, 6] (fun o a wr => ∃ (k n : Nat) (M : List Nat) (B : Option Addr) (cb : Nat), k < L.length ∧ a = .int .i64 k ∧ L.length ≤ n + k ∧ M.length ≤ k ∧ o = .slice B M.length cb ∧ Hid (wr.ownsRow (w.heap.size + 2) 9 1 (.slice B M.length cb) M.length (Texts.flat (M.map (codeAt L)))) ∧ Hid (chain L e = M ++ chainN L e n k) ∧ Hid (Below (w.heap.size + 2) (((w.alloc (.cells #[.int .i64 e.day, .int .i64 e.kind, .string e.interest, .int .i64 e.amount, .bool e.peril, .bool e.voluntary, .bool e.reasonable] 34))).alloc (.cells #[.int .i64 0, .slice none 0 0] 53)) wr)) (fun _ a _ => L.length - (intOf a).toNat)
  case atStart => exact ⟨0, L.length, [], _, _, by omega, rfl, by omega, Nat.le_refl _, rfl, HO, (by simp [Hid, chain]), Lib.hid ((Below.refl _ _).alloc (by simp) _)⟩
  case round =>
    clear HO
    obtain ⟨k, n, M, B, cb, hk, rfl, hn, hM, rfl, HW, HE, HX⟩ := hrel
    obtain ⟨n, rfl⟩ : ∃ m, n = m + 1 := ⟨n - 1, by omega⟩
    obtain ⟨f, hf⟩ : ∃ f, firstN L e k = f := ⟨_, rfl⟩
    have hfl : f < L.length := by rw [← hf]; exact first_lt HR.out e hk
    have hkf : k ≤ f := by rw [← hf]; exact first_ge L e k
    have C1 := first_impl b off cap L k e wr (HA.out.below (b2_below HX.out)) HR.out hk hcap hcm
    rw [hf] at C1
    have HC1 := Lib.hid C1
    have HF := Lib.hid hf
    clear C1 hf
    have e0 := b2_cell HX.out E0.out
    have e1 := b2_cell HX.out E1.out
    have e2 := b2_cell HX.out E2.out
    have e3 := b2_cell HX.out E3.out
    have e4 := b2_cell HX.out E4.out
    have e5 := b2_cell HX.out E5.out
    have e6 := b2_cell HX.out E6.out
    obtain ⟨b', off', hA, hlb, c0, c1, c2, c3, c4, c5, c6⟩ := HL.out f hfl
    injection hA with hA
    injection hA with hA1 hA2
    subst hA1; subst hA2
    go_wp2_with fail
    refine HC1.out.mono ?_
    rintro e' w1 ⟨rfl, hb1⟩
    have HX1 := Lib.hid (HX.out.trans (hb1.mono (b2_size HX.out)))
    have own1 := own_below HW.out hb1
    clear hb1 e0 e1 e2 e3 e4 e5 e6
    replace c0 := ((b2_below HX1.out).cell hlb).trans c0
    replace c1 := ((b2_below HX1.out).cell hlb).trans c1
    replace c2 := ((b2_below HX1.out).cell hlb).trans c2
    replace c3 := ((b2_below HX1.out).cell hlb).trans c3
    replace c4 := ((b2_below HX1.out).cell hlb).trans c4
    replace c5 := ((b2_below HX1.out).cell hlb).trans c5
    replace c6 := ((b2_below HX1.out).cell hlb).trans c6
    have B1 : Below w1.heap.size w1 (w1.alloc (.cells #[.string L[f].code, .int .i64 L[f].kind, .int .i64 L[f].peril, .int .i64 L[f].voluntary, .int .i64 L[f].reasonable, .int .i64 L[f].result, .string L[f].to] 26)) := (Below.refl _ _).alloc (Nat.le_refl _) _
    have d0 := made_cell w1 #[.string L[f].code, .int .i64 L[f].kind, .int .i64 L[f].peril, .int .i64 L[f].voluntary, .int .i64 L[f].reasonable, .int .i64 L[f].result, .string L[f].to] 26 0 (.string L[f].code) rfl
    have d1 := made_cell w1 #[.string L[f].code, .int .i64 L[f].kind, .int .i64 L[f].peril, .int .i64 L[f].voluntary, .int .i64 L[f].reasonable, .int .i64 L[f].result, .string L[f].to] 26 1 (.int .i64 L[f].kind) rfl
    have d2 := made_cell w1 #[.string L[f].code, .int .i64 L[f].kind, .int .i64 L[f].peril, .int .i64 L[f].voluntary, .int .i64 L[f].reasonable, .int .i64 L[f].result, .string L[f].to] 26 2 (.int .i64 L[f].peril) rfl
    have d3 := made_cell w1 #[.string L[f].code, .int .i64 L[f].kind, .int .i64 L[f].peril, .int .i64 L[f].voluntary, .int .i64 L[f].reasonable, .int .i64 L[f].result, .string L[f].to] 26 3 (.int .i64 L[f].voluntary) rfl
    have d4 := made_cell w1 #[.string L[f].code, .int .i64 L[f].kind, .int .i64 L[f].peril, .int .i64 L[f].voluntary, .int .i64 L[f].reasonable, .int .i64 L[f].result, .string L[f].to] 26 4 (.int .i64 L[f].reasonable) rfl
    have d5 := made_cell w1 #[.string L[f].code, .int .i64 L[f].kind, .int .i64 L[f].peril, .int .i64 L[f].voluntary, .int .i64 L[f].reasonable, .int .i64 L[f].result, .string L[f].to] 26 5 (.int .i64 L[f].result) rfl
    have d6 := made_cell w1 #[.string L[f].code, .int .i64 L[f].kind, .int .i64 L[f].peril, .int .i64 L[f].voluntary, .int .i64 L[f].reasonable, .int .i64 L[f].result, .string L[f].to] 26 6 (.string L[f].to) rfl
    have HX1b := Lib.hid (HX1.out.trans (B1.mono (b2_size HX1.out)))
    have own1b := own_below own1 B1
    have HS1 := Lib.hid (b2_size HX1b.out)
    have hs1 := HS1.out
    simp only [World.size_alloc] at hs1
    have H1 := Lib.hid (own1b.alloc (.cells #[.string L[f].code] 9))
    have HD := Lib.hid (show ∀ j v, (w1.alloc (.cells #[.string L[f].code, .int .i64 L[f].kind, .int .i64 L[f].peril, .int .i64 L[f].voluntary, .int .i64 L[f].reasonable, .int .i64 L[f].result, .string L[f].to] 26)).cell? ⟨w1.heap.size, j, none⟩ = some v → ((w1.alloc (.cells #[.string L[f].code, .int .i64 L[f].kind, .int .i64 L[f].peril, .int .i64 L[f].voluntary, .int .i64 L[f].reasonable, .int .i64 L[f].result, .string L[f].to] 26)).alloc (.cells #[.string L[f].code] 9)).cell? ⟨w1.heap.size, j, none⟩ = some v from fun j v h => below_cell ((Below.refl _ _).alloc (Nat.le_refl _) _) h)
    have hM12 : M.length ≤ 12 := by omega
    go_wp2_with (at_builtin; refine wpList_append_own _ rfl _ _ 51 rfl (w.heap.size + 2) 9 i0 _ 1 16 Try.underlying51 hi hz0 hz1 hz2 rfl (by decide) _ _ _ rfl H1.out ⟨w1.heap.size + 1, 0, none⟩ 1 1 [.string L[f].code] rfl rfl ?c1 ?c2 ?c3 ?c4 ?c5 ?_)
    case c1 => have h := cell_one_new (w1.alloc (.cells #[.string L[f].code, .int .i64 L[f].kind, .int .i64 L[f].peril, .int .i64 L[f].voluntary, .int .i64 L[f].reasonable, .int .i64 L[f].result, .string L[f].to] 26)) (.string L[f].code) 9; simp only [World.size_alloc] at h; exact h
    case c2 => intro u hu; simp at hu; subst hu; rfl
    case c3 => unfold maxLen; omega
    case c4 => omega
    case c5 => simp; omega
    intro v' w2 hown' hgr hnil
    have HX2 := Lib.hid ((HX1b.out.alloc HS1.out (.cells #[.string L[f].code] 9)).grown hgr (by simp; omega) (fun g hg => (own1b.lt g hg).1))
    have q5 := hgr.cell (HD.out _ _ d5) (fun e => absurd (own1.lt _ e.symm).2 (Nat.lt_irrefl _))
    have q6 := hgr.cell (HD.out _ _ d6) (fun e => absurd (own1.lt _ e.symm).2 (Nat.lt_irrefl _))
    obtain ⟨A2, cb2, rfl, _⟩ := own_shape hown'
    have H2 := Lib.hid hown'
    have HG : Hid (Texts.flat (M.map (codeAt L)) ++ [.string L[f].code] = Texts.flat ((M ++ [f]).map (codeAt L))) := by
      unfold Hid; rw [List.map_append, List.map_singleton, texts_flat_app, codeAt_eq hfl]
    have z0 := b2_cell1 (j := 0) HX2.out rfl
    have z1 := b2_cell1 (j := 1) HX2.out rfl
    have zf := b2_frozen HX2.out
    clear hown' hgr hnil hs1 own1b own1 B1 d0 d1 d2 d3 d4 d5 d6 HD H1 HS1 HX1 HX1b c0 c1 c2 c3 c4 c5 c6
    cases h3 : (L[f].result == 3)
    · have n3 : (L[f].result != 3) = true := by rw [bne, h3]; rfl
      have HN : Hid (L[f].result ≠ 3) := by unfold Hid; simpa using h3
      go_wp2
      have hE : chain L e = M ++ [f] := by rw [HE.out, ch_end HF.out hfl HN.out]
      have h2 := H2.out
      rw [HG.out] at h2
      have e1 : chainRes L e = L[f].result := chain_last hE hfl
      have e2 : chainCodes L e = (M ++ [f]).map (codeAt L) := by rw [chainCodes, hE]
      have e3 : ((M ++ [f]).map (codeAt L)).length = M.length + 1 := by simp
      have HE1 := Lib.hid e1
      have HE2 := Lib.hid e2
      have HE3 := Lib.hid e3
      clear e1 e2 e3 hE
      refine bodyPost_ret (v := .agg #[.int .i64 L[f].result, .slice A2 (M.length + 1) cb2]) (by simp [results, Try.results87, go_sem, z0, z1, zf]) rfl ?_
      rw [HE1.out, HE2.out]
      exact dec_fin (HE3.out) h2 (b2_below HX2.out)
    · have n3 : (L[f].result != 3) = false := by rw [bne, h3]; rfl
      have h33 : L[f].result = 3 := by simpa using h3
      obtain ⟨g1, g2, g3⟩ := find_go HR.out hfl h33
      have C2 := find_impl (some ⟨b, off, none⟩) cap L L[f].to w2 (HA.out.below (b2_below HX2.out)) (by omega)
      rw [g1] at C2
      have HC2 := Lib.hid C2
      have HGO : Hid (chainN L e (n + 1) k = f :: chainN L e n (findN L L[f].to)) := ch_go HF.out hfl h33
      clear C2 g1 h33
      generalize findN L L[f].to = k2 at g2 g3 HC2 HGO
      go_wp2_with fail
      refine HC2.out.mono ?_
      rintro e' w3 ⟨rfl, hb3⟩
      have HX3 := Lib.hid (HX2.out.trans (hb3.mono (b2_size HX2.out)))
      have H3 := Lib.hid (own_below H2.out hb3)
      clear hb3
      go_wp2
      go_roundw
      case rel =>
        refine ⟨k2, n, M ++ [f], A2, cb2, g3, rfl, by omega, by simp; omega, by rw [List.length_append]; rfl, ?_, ?_, HX3⟩
        · have h2 := H3.out
          rw [HG.out] at h2
          rw [List.length_append]
          exact Lib.hid h2
        · unfold Hid
          rw [HE.out, HGO.out]; simp
      case measure => simp [intOf]; omega
end Go.Proofs.Ythhfhdekhgkcaaa
