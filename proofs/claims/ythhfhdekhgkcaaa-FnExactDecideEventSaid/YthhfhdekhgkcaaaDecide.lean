/-
  The result of a chain and the decision of the reference.
-/
import Derived.Test.YthhfhdekhgkcaaaChain
namespace Go.Proofs.Ythhfhdekhgkcaaa
open Go.RowKit

theorem below_cell' {w w' : World} {a : Addr} {v : Value} (hb : Below w.heap.size w w') (hg : a.block < w.heap.size) (h : w.cell? a = some v) : w'.cell? a = some v := (hb.cell hg).trans h
theorem chain_spec2 (A : Option Addr) (cap : Nat) (L : List Clause) (e : Event) (w : World) (hL : Clause.At w A L) (R : Rule L) :
    Calls Try.prog 82 #[.slice A L.length cap, e.val] w fun e' w' => ∃ g off c, e' = .returned (.slice (some ⟨g, off, none⟩) (chain L e).length c) ∧ w.heap.size ≤ g ∧ g < w'.heap.size ∧ Hid (∀ k f, (chain L e)[k]? = some f → w'.cell? ⟨g, off + k, none⟩ = some (.int .i64 ((f : Nat) : Int))) ∧ Below w.heap.size w w' := by
  refine (chain_spec A cap L e w hL R).mono ?_
  rintro e' w' ⟨B, c, rfl, ho, hb⟩
  have hpos := chain_pos R e
  obtain ⟨g, off, rfl, hg, _⟩ := (Ints.At.of_own ho).at_ 0 (by rw [ints_len]; exact hpos)
  refine ⟨g, off, c, by rw [ints_len], (ho.lt g rfl).1, hg, ?_, hb⟩
  intro k f hf
  obtain ⟨hk, hkf⟩ := List.getElem?_eq_some_iff.1 hf
  obtain ⟨g', off', e1, _, hc⟩ := (Ints.At.of_own ho).at_ k (by rw [ints_len]; exact hk)
  injection e1 with e1
  injection e1 with e1 e2
  subst e1; subst e2
  rw [hc]
  simp [ints, hkf]
theorem chain_res {L : List Clause} {e : Event} {C : List Nat} {m f : Nat} (h : chain L e = C) (hm : C.length = m + 1) (hf : C[m]? = some f) (hl : f < L.length) : chainRes L e = L[f].result := by
  rw [chainRes, h, List.getLast?_eq_getElem?, hm, Nat.add_sub_cancel, hf, Option.getD_some, resAt_eq hl]

set_option maxHeartbeats 1000000 in
set_option maxRecDepth 100000 in
theorem l10Result_any (A : Option Addr) (cap : Nat) (L : List Clause) (e : Event) (w : World) (hL : Clause.At w A L) (R : Rule L) :
    Calls Try.prog 97 #[.slice A L.length cap, e.val] w fun e' w' => e' = .returned (.int .i64 (chainRes L e)) ∧ Below w.heap.size w w' := by
  have HL := Lib.hid hL.at_
  have HA := Lib.hid hL
  have HR := Lib.hid R
  have hle := R.le
  have hpos := R.pos
  have B1 : Below w.heap.size w (w.alloc (.cells #[.int .i64 e.day, .int .i64 e.kind, .string e.interest, .int .i64 e.amount, .bool e.peril, .bool e.voluntary, .bool e.reasonable] 34)) := (Below.refl _ _).alloc (Nat.le_refl _) _
  have E0 := Lib.hid (made_cell w #[.int .i64 e.day, .int .i64 e.kind, .string e.interest, .int .i64 e.amount, .bool e.peril, .bool e.voluntary, .bool e.reasonable] 34 0 (.int .i64 e.day) rfl)
  have E1 := Lib.hid (made_cell w #[.int .i64 e.day, .int .i64 e.kind, .string e.interest, .int .i64 e.amount, .bool e.peril, .bool e.voluntary, .bool e.reasonable] 34 1 (.int .i64 e.kind) rfl)
  have E2 := Lib.hid (made_cell w #[.int .i64 e.day, .int .i64 e.kind, .string e.interest, .int .i64 e.amount, .bool e.peril, .bool e.voluntary, .bool e.reasonable] 34 2 (.string e.interest) rfl)
  have E3 := Lib.hid (made_cell w #[.int .i64 e.day, .int .i64 e.kind, .string e.interest, .int .i64 e.amount, .bool e.peril, .bool e.voluntary, .bool e.reasonable] 34 3 (.int .i64 e.amount) rfl)
  have E4 := Lib.hid (made_cell w #[.int .i64 e.day, .int .i64 e.kind, .string e.interest, .int .i64 e.amount, .bool e.peril, .bool e.voluntary, .bool e.reasonable] 34 4 (.bool e.peril) rfl)
  have E5 := Lib.hid (made_cell w #[.int .i64 e.day, .int .i64 e.kind, .string e.interest, .int .i64 e.amount, .bool e.peril, .bool e.voluntary, .bool e.reasonable] 34 5 (.bool e.voluntary) rfl)
  have E6 := Lib.hid (made_cell w #[.int .i64 e.day, .int .i64 e.kind, .string e.interest, .int .i64 e.amount, .bool e.peril, .bool e.voluntary, .bool e.reasonable] 34 6 (.bool e.reasonable) rfl)
  have C1 := chain_spec2 A cap L e (w.alloc (.cells #[.int .i64 e.day, .int .i64 e.kind, .string e.interest, .int .i64 e.amount, .bool e.peril, .bool e.voluntary, .bool e.reasonable] 34)) (hL.below B1) R
  have hc1 := chain_pos R e
  have hc2 := chain_len R e
  have hc3 := chain_mem R e
  obtain ⟨C, hC⟩ : ∃ C, chain L e = C := ⟨_, rfl⟩
  rw [hC] at C1 hc1 hc2 hc3
  obtain ⟨m, hm⟩ : ∃ m, C.length = m + 1 := ⟨C.length - 1, by omega⟩
  obtain ⟨f, hf⟩ : ∃ f, C[m]? = some f := ⟨C[m]'(by omega), List.getElem?_eq_getElem _⟩
  have hfl : f < L.length := hc3 _ (List.mem_of_getElem? hf)
  have hr := chain_res hC hm hf hfl
  rw [hm] at C1
  have HC1 := Lib.hid C1
  have HCI := Lib.hid hC
  have HRR := Lib.hid hr
  have HB1 := Lib.hid B1
  have HMM := Lib.hid hm
  have HF := Lib.hid hf
  have hm12 : m + 1 ≤ 12 := by omega
  clear C1 hC hr hc3 hL R B1 hm hf
  go_enter Try.func97, Try.ntmps97
  go_wp2_with fail
  refine HC1.out.mono ?_
  rintro e' w1 ⟨g, off, c, rfl, hg1, hg2, HI, hb1⟩
  have HB2 := Lib.hid (HB1.out.trans (hb1.mono HB1.out.size))
  have hci := HI.out m f HF.out
  obtain ⟨b, off2, rfl, hlb, c0, c1, c2, c3, c4, c5, c6⟩ := HL.out f hfl
  replace c5 := (HB2.out.cell hlb).trans c5
  clear hb1 hlb c0 c1 c2 c3 c4 c6
  go_wp2
  go_ret
  exact ⟨ret_i HRR.out.symm, HB2.out⟩

set_option maxHeartbeats 2000000 in
set_option maxRecDepth 100000 in
theorem decide_spec (A : Option Addr) (cap : Nat) (L : List Clause) (e : Event) (w : World) (hL : Clause.At w A L) (R : Rule L) :
    Calls Try.prog 88 #[.slice A L.length cap, e.val] w (DecMade w (chainRes L e) (chainCodes L e)) := by
  have HL := Lib.hid hL.at_
  have HA := Lib.hid hL
  have HR := Lib.hid R
  have hle := R.le
  have hpos := R.pos
  have B1 : Below w.heap.size w ((w.alloc (.cells #[.int .i64 e.day, .int .i64 e.kind, .string e.interest, .int .i64 e.amount, .bool e.peril, .bool e.voluntary, .bool e.reasonable] 34)).alloc (.cells #[.int .i64 0, .slice none 0 0] 53)) := ((Below.refl _ _).alloc (Nat.le_refl _) _).alloc (by simp) _
  have E0 := Lib.hid (made_cell w #[.int .i64 e.day, .int .i64 e.kind, .string e.interest, .int .i64 e.amount, .bool e.peril, .bool e.voluntary, .bool e.reasonable] 34 0 (.int .i64 e.day) rfl)
  have E1 := Lib.hid (made_cell w #[.int .i64 e.day, .int .i64 e.kind, .string e.interest, .int .i64 e.amount, .bool e.peril, .bool e.voluntary, .bool e.reasonable] 34 1 (.int .i64 e.kind) rfl)
  have E2 := Lib.hid (made_cell w #[.int .i64 e.day, .int .i64 e.kind, .string e.interest, .int .i64 e.amount, .bool e.peril, .bool e.voluntary, .bool e.reasonable] 34 2 (.string e.interest) rfl)
  have E3 := Lib.hid (made_cell w #[.int .i64 e.day, .int .i64 e.kind, .string e.interest, .int .i64 e.amount, .bool e.peril, .bool e.voluntary, .bool e.reasonable] 34 3 (.int .i64 e.amount) rfl)
  have E4 := Lib.hid (made_cell w #[.int .i64 e.day, .int .i64 e.kind, .string e.interest, .int .i64 e.amount, .bool e.peril, .bool e.voluntary, .bool e.reasonable] 34 4 (.bool e.peril) rfl)
  have E5 := Lib.hid (made_cell w #[.int .i64 e.day, .int .i64 e.kind, .string e.interest, .int .i64 e.amount, .bool e.peril, .bool e.voluntary, .bool e.reasonable] 34 5 (.bool e.voluntary) rfl)
  have E6 := Lib.hid (made_cell w #[.int .i64 e.day, .int .i64 e.kind, .string e.interest, .int .i64 e.amount, .bool e.peril, .bool e.voluntary, .bool e.reasonable] 34 6 (.bool e.reasonable) rfl)
  have C1 := chain_spec2 A cap L e ((w.alloc (.cells #[.int .i64 e.day, .int .i64 e.kind, .string e.interest, .int .i64 e.amount, .bool e.peril, .bool e.voluntary, .bool e.reasonable] 34)).alloc (.cells #[.int .i64 0, .slice none 0 0] 53)) (hL.below B1) R
  have hc1 := chain_pos R e
  have hc2 := chain_len R e
  have hc3 := chain_mem R e
  obtain ⟨C, hC⟩ : ∃ C, chain L e = C := ⟨_, rfl⟩
  rw [hC] at C1 hc1 hc2 hc3
  obtain ⟨m, hm⟩ : ∃ m, C.length = m + 1 := ⟨C.length - 1, by omega⟩
  obtain ⟨f, hf⟩ : ∃ f, C[m]? = some f := ⟨C[m]'(by omega), List.getElem?_eq_getElem _⟩
  have hfl : f < L.length := hc3 _ (List.mem_of_getElem? hf)
  have hr := chain_res hC hm hf hfl
  obtain ⟨D, hD⟩ : ∃ D, D = C.map (codeAt L) := ⟨_, rfl⟩
  have hcc : chainCodes L e = D := by rw [chainCodes, hC, hD]
  have hDl : D.length = C.length := by rw [hD, List.length_map]
  rw [hr, hcc]
  have HD := Lib.hid hD
  have HDL := Lib.hid hDl
  clear hD hDl
  have HC1 := Lib.hid C1
  have HMM := Lib.hid hm
  have HC3 := Lib.hid hc3
  have HB1 := Lib.hid B1
  have HF := Lib.hid hf
  clear C1 hC hr hc3 hcc hL R B1 hf
  obtain ⟨i0, hi, hz0, hz1, hz2⟩ := info_parts Texts.info
  have e0 := below_cell ((Below.refl _ _).alloc (Nat.le_refl _) (.cells #[.int .i64 0, .slice none 0 0] 53)) E0.out
  have e1 := below_cell ((Below.refl _ _).alloc (Nat.le_refl _) (.cells #[.int .i64 0, .slice none 0 0] 53)) E1.out
  have e2 := below_cell ((Below.refl _ _).alloc (Nat.le_refl _) (.cells #[.int .i64 0, .slice none 0 0] 53)) E2.out
  have e3 := below_cell ((Below.refl _ _).alloc (Nat.le_refl _) (.cells #[.int .i64 0, .slice none 0 0] 53)) E3.out
  have e4 := below_cell ((Below.refl _ _).alloc (Nat.le_refl _) (.cells #[.int .i64 0, .slice none 0 0] 53)) E4.out
  have e5 := below_cell ((Below.refl _ _).alloc (Nat.le_refl _) (.cells #[.int .i64 0, .slice none 0 0] 53)) E5.out
  have e6 := below_cell ((Below.refl _ _).alloc (Nat.le_refl _) (.cells #[.int .i64 0, .slice none 0 0] 53)) E6.out
  go_enter Try.func88, Try.ntmps88
  go_wp2_with fail
  refine HC1.out.mono ?_
  rintro e' w1 ⟨g, off, c, rfl, hg1, hg2, HI, hb1⟩
  have HX1 : Hid (Below (w.heap.size + 2) ((w.alloc (.cells #[.int .i64 e.day, .int .i64 e.kind, .string e.interest, .int .i64 e.amount, .bool e.peril, .bool e.voluntary, .bool e.reasonable] 34)).alloc (.cells #[.int .i64 0, .slice none 0 0] 53)) w1) := hb1.mono (by simp)
  have HO := Lib.hid (own_new w1 w1.heap.size 9 1 (Nat.le_refl _))
  have HB0 := Lib.hid ((Below.refl w1.heap.size w1).alloc (Nat.le_refl _) (.cells #[] 9))
  clear hb1 hg1 e0 E0 e1 E1 e2 E2 e3 E3 e4 E4 e5 E5 e6 E6
  go_wp2
  go_loopw [6, 7] (fun o i wr => ∃ (k : Nat) (B : Option Addr) (cb : Nat), k ≤ C.length ∧ i = .int .i64 k ∧ o = .slice B k cb ∧ Hid (wr.ownsRow w1.heap.size 9 1 (.slice B k cb) k (Texts.flat (D.take k))) ∧ Hid (Below w1.heap.size w1 wr)) (fun _ i _ => C.length - (intOf i).toNat)
  case atStart => exact ⟨0, _, _, Nat.zero_le _, rfl, rfl, HO, HB0⟩
  case round =>
    clear HO HB0
    obtain ⟨k, B, cb, hk, rfl, rfl, HW, HX⟩ := hrel
    by_cases hlt : k < C.length
    · obtain ⟨f2, hf2⟩ : ∃ f2, C[k]? = some f2 := ⟨C[k], List.getElem?_eq_getElem _⟩
      have hci := below_cell' HX.out hg2 (HI.out k f2 hf2)
      have hfk : f2 < L.length := HC3.out _ (List.mem_of_getElem? hf2)
      have HCS : Hid (D.take (k + 1) = D.take k ++ [L[f2].code]) := by
        unfold Hid; rw [List.take_add_one, HD.out, List.getElem?_map, hf2, Option.map_some, codeAt_eq hfk]; rfl
      clear hf2
      obtain ⟨b, off2, rfl, hlb, c0, _⟩ := HL.out f2 hfk
      replace c0 := (((b2_below HX1.out).trans (HX.out.mono (by have := b2_size HX1.out; omega))).cell hlb).trans c0
      have HFL : Hid (Texts.flat (D.take k ++ [L[f2].code]) = Texts.flat (D.take k) ++ [.string L[f2].code]) := texts_flat_app _ _
      have hown := HW.out
      clear hlb
      have hs1 := HX.out.size
      try simp only [World.size_alloc] at hs1
      have H1 := Lib.hid (hown.alloc (.cells #[(.string L[f2].code)] 9))
      go_wp2_with (at_builtin; refine wpList_append_own _ rfl _ _ 51 rfl (w1.heap.size) 9 i0 _ 1 16 Try.underlying51 hi hz0 hz1 hz2 rfl (by decide) _ _ _ rfl H1.out ⟨wr.heap.size, 0, none⟩ 1 1 [(.string L[f2].code)] rfl rfl ?c1 ?c2 ?c3 ?c4 ?c5 ?_)
      case c1 => exact cell_one_new _ _ _
      case c2 => intro u hu; simp at hu; subst hu; rfl
      case c3 => unfold maxLen; omega
      case c4 => omega
      case c5 => simp; omega
      intro v' w2 hown' hgr hnil
      have HB2 := Lib.hid ((HX.out.alloc HX.out.size (.cells #[(.string L[f2].code)] 9)).grown hgr (by simp; omega) (fun g hg => (hown.lt g hg).1))
      obtain ⟨A2, cb2, rfl, _⟩ := own_shape hown'
      have H2 := Lib.hid hown'
      clear hown' hgr hnil hs1
      clear hown
      go_wp2
      go_roundw
      case rel =>
        refine ⟨k + 1, A2, cb2, by omega, by go_num, rfl, ?_, HB2⟩
        rw [HCS.out, HFL.out]
        exact H2
      case measure => simp [intOf]; omega
    · obtain rfl : k = C.length := by omega
      have h2 := HW.out
      rw [List.take_of_length_le (by rw [HDL.out]; exact Nat.le_refl _)] at h2
      have HX2 : Hid (Below (w.heap.size + 2) ((w.alloc (.cells #[.int .i64 e.day, .int .i64 e.kind, .string e.interest, .int .i64 e.amount, .bool e.peril, .bool e.voluntary, .bool e.reasonable] 34)).alloc (.cells #[.int .i64 0, .slice none 0 0] 53)) wr) := Lib.hid (HX1.out.trans (HX.out.mono (b2_size HX1.out)))
      have hci := below_cell' HX.out hg2 (HI.out m f HF.out)
      obtain ⟨b, off2, rfl, hlb, c0, c1, c2, c3, c4, c5, c6⟩ := HL.out f hfl
      replace c5 := ((b2_below HX2.out).cell hlb).trans c5
      have z0 := b2_cell1 (j := 0) HX2.out rfl
      have z1 := b2_cell1 (j := 1) HX2.out rfl
      have zf := b2_frozen HX2.out
      have hsz := b2_size HX1.out
      have HO2 := Lib.hid (own_base h2 hsz)
      clear hlb c0 c1 c2 c3 c4 c6 h2 hsz
      have hmm := HMM.out
      rw [hmm] at hk hc1 hc2 HO2 ⊢
      clear hmm
      go_wp2
      refine bodyPost_ret (v := .agg #[.int .i64 L[f].result, .slice B (m + 1) cb]) (by simp [results, Try.results88, go_sem, z0, z1]) rfl ?_
      exact dec_fin (by rw [HDL.out, HMM.out]) HO2.out (b2_below HX2.out)
end Go.Proofs.Ythhfhdekhgkcaaa
