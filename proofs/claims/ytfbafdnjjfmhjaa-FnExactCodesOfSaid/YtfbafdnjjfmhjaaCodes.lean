/-
  CodesOf on both sides.
-/
import Derived.Test.YtfbafdnjjfmhjaaManifest
import Derived.Test.YtfbafdnjjfmhjaaTexts
namespace Go.Proofs.Ytfbafdnjjfmhjaa
open Go.RowKit

def codesOf (L : List Interest) (s : ByteArray) : List ByteArray := (L.filter (fun x => sEq x.owner s)).map Interest.code
def codesR (L : List Interest) (s : ByteArray) : List ByteArray × Int := if manifestB L then (codesOf L s, 0) else ([], 1)
theorem codesOf_len (L : List Interest) (s : ByteArray) : (codesOf L s).length ≤ L.length := by
  rw [codesOf, List.length_map]; exact List.length_filter_le _ _
theorem codesR_len (L : List Interest) (s : ByteArray) : (codesR L s).1.length ≤ L.length := by
  unfold codesR; split
  · exact codesOf_len L s
  · simp
theorem codesOf_hit {L : List Interest} {s : ByteArray} {k : Nat} (h : k < L.length) (hp : sEq L[k].owner s = true) : codesOf (L.take (k + 1)) s = codesOf (L.take k) s ++ [L[k].code] := by
  rw [List.take_succ_eq_append_getElem h, codesOf, List.filter_append]; simp [codesOf, hp]
theorem codesOf_miss {L : List Interest} {s : ByteArray} {k : Nat} (h : k < L.length) (hp : sEq L[k].owner s = false) : codesOf (L.take (k + 1)) s = codesOf (L.take k) s := by
  rw [List.take_succ_eq_append_getElem h, codesOf, List.filter_append]; simp [codesOf, hp]

set_option maxHeartbeats 2000000 in
set_option maxRecDepth 100000 in
theorem CodesOf_spec (A : Option Addr) (cap : Nat) (L : List Interest) (s : ByteArray) (w : World) (hL : Interest.At w A L) (hs : ∀ s ∈ L, s.tiny) (hlen : L.length ≤ 1048576) :
    Calls Try.prog 51 #[.slice A L.length cap, .string s] w (Texts.MadeC w (codesR L s).1 (codesR L s).2) := by
  have HL := Lib.hid hL.at_
  have HX := isManifest_spec A cap L w hL hs hlen
  obtain ⟨i0, hi, hz0, hz1, hz2⟩ := info_parts Texts.info
  clear hL hs
  cases hv : manifestB L
  · rw [hv] at HX
    rw [codesR, hv]
    have HX2 := Lib.hid HX
    clear HX hv
    go_enter Try.func51, Try.ntmps51
    go_wp2_with fail
    refine HX2.out.mono ?_
    rintro e w1 ⟨rfl, hb1⟩
    go_wp2
    go_ret2
    exact Texts.nilC hb1
  have h10 := manifest_len hv
  rw [hv] at HX
  rw [codesR, hv]
  have HX2 := Lib.hid HX
  clear HX hv
  go_enter Try.func51, Try.ntmps51
  go_wp2_with fail
  refine HX2.out.mono ?_
  rintro e w1 ⟨rfl, hb1⟩
  have HO := Lib.hid (own_new w1 w.heap.size 9 1 hb1.size)
  have HB1 := Lib.hid (hb1.alloc hb1.size (.cells #[] 9))
  clear hb1
  go_wp2
  go_loopw [6, 7] (fun o i wr => ∃ (k : Nat) (B : Option Addr) (cb : Nat), k ≤ L.length ∧ i = .int .i64 k ∧ o = .slice B (codesOf (L.take k) s).length cb ∧ Hid (wr.ownsRow w.heap.size 9 1 (.slice B (codesOf (L.take k) s).length cb) (codesOf (L.take k) s).length (Texts.flat (codesOf (L.take k) s))) ∧ Below w.heap.size w wr) (fun _ i _ => L.length - (intOf i).toNat)
  case atStart => exact ⟨0, _, _, Nat.zero_le _, rfl, rfl, HO, HB1.out⟩
  case round =>
    clear HO HB1
    obtain ⟨k, B, cb, hk, rfl, rfl, HW, hb⟩ := hrel
    obtain ⟨M, hMM⟩ : ∃ M, M = codesOf (L.take k) s := ⟨_, rfl⟩
    rw [← hMM] at HW ⊢
    have hMl : M.length ≤ k := by rw [hMM]; exact Nat.le_trans (codesOf_len _ s) (by simp; omega)
    have HM := Lib.hid hMM
    clear hMM
    by_cases hlt : k < L.length
    · obtain ⟨b, off, rfl, hlb, c0, c1, c2, c3, c4⟩ := HL.out k hlt
      replace c0 := (hb.cell hlb).trans c0
      replace c1 := (hb.cell hlb).trans c1
      replace c2 := (hb.cell hlb).trans c2
      replace c3 := (hb.cell hlb).trans c3
      replace c4 := (hb.cell hlb).trans c4
      have hown := HW.out
      have HB := Lib.hid hb
      have HW2 := Lib.hid hown
      clear hb hown HW
      cases hp : (L[k].owner.toList == s.toList)
      · have HQ : Hid (codesOf (L.take (k + 1)) s = M) := (codesOf_miss hlt hp).trans HM.out.symm
        go_wp2
        go_roundw
        case rel =>
          refine ⟨k + 1, B, cb, by omega, by go_num, by rw [HQ.out], ?_, HB.out⟩
          rw [HQ.out]
          exact HW2
        case measure => simp [intOf]; omega
      · have HQ : Hid (codesOf (L.take (k + 1)) s = M ++ [L[k].code]) := (codesOf_hit hlt hp).trans (by rw [HM.out])
        have HF : Hid (Texts.flat (M ++ [L[k].code]) = Texts.flat M ++ [.string L[k].code]) := by unfold Hid; simp [Texts.flat, Texts.cell]
        have hown := HW2.out
        have hs1 := HB.out.size
        try simp only [World.size_alloc] at hs1
        have H1 := Lib.hid (hown.alloc (.cells #[(.string L[k].code)] 9))
        go_wp2_with (at_builtin; refine wpList_append_own _ rfl _ _ 69 rfl (w.heap.size) 9 i0 _ 1 16 Try.underlying69 hi hz0 hz1 hz2 rfl (by decide) _ _ _ rfl H1.out ⟨wr.heap.size, 0, none⟩ 1 1 [(.string L[k].code)] rfl rfl ?c1 ?c2 ?c3 ?c4 ?c5 ?_)
        case c1 => exact cell_one_new _ _ _
        case c2 => intro u hu; simp at hu; subst hu; rfl
        case c3 => unfold maxLen; omega
        case c4 => omega
        case c5 => simp; omega
        intro v' w2 hown' hgr hnil
        have HB2 := Lib.hid ((HB.out.alloc HB.out.size (.cells #[(.string L[k].code)] 9)).grown hgr (by simp; omega) (fun g hg => (hown.lt g hg).1))
        obtain ⟨A2, cb2, rfl, _⟩ := own_shape hown'
        have H2 := Lib.hid hown'
        clear hown' hgr hnil hs1
        clear hown
        go_wp2
        go_roundw
        case rel =>
          refine ⟨k + 1, A2, cb2, by omega, by go_num, by rw [HQ.out, List.length_append]; rfl, ?_, HB2.out⟩
          rw [HQ.out, List.length_append, HF.out]
          exact H2
        case measure => simp [intOf]; omega
    · obtain rfl : k = L.length := by omega
      go_wp2
      go_ret2
      have e : M = codesOf L s := by rw [HM.out, List.take_length]
      have h2 := HW.out
      rw [e] at h2 ⊢
      exact ⟨B, cb, rfl, h2, hb⟩

set_option maxHeartbeats 2000000 in
set_option maxRecDepth 100000 in
theorem CodesOf_impl (A : Option Addr) (cap : Nat) (L : List Interest) (s : ByteArray) (w : World) (hL : Interest.At w A L) (hs : ∀ s ∈ L, s.tiny) (hlen : L.length ≤ 1048576) :
    Calls Try.prog 52 #[.slice A L.length cap, .string s] w (Texts.MadeC w (codesR L s).1 (codesR L s).2) := by
  have HL := Lib.hid hL.at_
  have HX := isManifest_impl A cap L w hL hs hlen
  obtain ⟨i0, hi, hz0, hz1, hz2⟩ := info_parts Texts.info
  clear hL hs
  cases hv : manifestB L
  · rw [hv] at HX
    rw [codesR, hv]
    have HX2 := Lib.hid HX
    clear HX hv
    go_enter Try.func52, Try.ntmps52
    go_wp2_with fail
    refine HX2.out.mono ?_
    rintro e w1 ⟨rfl, hb1⟩
    go_wp2
    go_ret2
    exact Texts.nilC hb1
  have h10 := manifest_len hv
  rw [hv] at HX
  rw [codesR, hv]
  have HX2 := Lib.hid HX
  clear HX hv
  go_enter Try.func52, Try.ntmps52
  go_wp2_with fail
  refine HX2.out.mono ?_
  rintro e w1 ⟨rfl, hb1⟩
  have HO := Lib.hid (own_new w1 w.heap.size 9 1 hb1.size)
  have HB1 := Lib.hid (hb1.alloc hb1.size (.cells #[] 9))
  clear hb1
  go_wp2
  go_loopw [6, 15] (fun o i wr => ∃ (k : Nat) (B : Option Addr) (cb : Nat), k ≤ L.length ∧ i = .int .i64 k ∧ o = .slice B (codesOf (L.take k) s).length cb ∧ Hid (wr.ownsRow w.heap.size 9 1 (.slice B (codesOf (L.take k) s).length cb) (codesOf (L.take k) s).length (Texts.flat (codesOf (L.take k) s))) ∧ Below w.heap.size w wr) (fun _ i _ => L.length - (intOf i).toNat)
  case atStart => exact ⟨0, _, _, Nat.zero_le _, rfl, rfl, HO, HB1.out⟩
  case round =>
    clear HO HB1
    obtain ⟨k, B, cb, hk, rfl, rfl, HW, hb⟩ := hrel
    obtain ⟨M, hMM⟩ : ∃ M, M = codesOf (L.take k) s := ⟨_, rfl⟩
    rw [← hMM] at HW ⊢
    have hMl : M.length ≤ k := by rw [hMM]; exact Nat.le_trans (codesOf_len _ s) (by simp; omega)
    have HM := Lib.hid hMM
    clear hMM
    by_cases hlt : k < L.length
    · obtain ⟨b, off, rfl, hlb, c0, c1, c2, c3, c4⟩ := HL.out k hlt
      replace c0 := (hb.cell hlb).trans c0
      replace c1 := (hb.cell hlb).trans c1
      replace c2 := (hb.cell hlb).trans c2
      replace c3 := (hb.cell hlb).trans c3
      replace c4 := (hb.cell hlb).trans c4
      have hown := HW.out
      have B1 : Below wr.heap.size wr (wr.alloc (.cells #[.string L[k].code, .int .i64 L[k].kind, .string L[k].owner, .int .i64 L[k].value, .int .i64 L[k].age] 110)) := (Below.refl _ _).alloc (Nat.le_refl _) _
      have d0 := made_cell wr #[.string L[k].code, .int .i64 L[k].kind, .string L[k].owner, .int .i64 L[k].value, .int .i64 L[k].age] 110 0 (.string L[k].code) rfl
      have d1 := made_cell wr #[.string L[k].code, .int .i64 L[k].kind, .string L[k].owner, .int .i64 L[k].value, .int .i64 L[k].age] 110 1 (.int .i64 L[k].kind) rfl
      have d2 := made_cell wr #[.string L[k].code, .int .i64 L[k].kind, .string L[k].owner, .int .i64 L[k].value, .int .i64 L[k].age] 110 2 (.string L[k].owner) rfl
      have d3 := made_cell wr #[.string L[k].code, .int .i64 L[k].kind, .string L[k].owner, .int .i64 L[k].value, .int .i64 L[k].age] 110 3 (.int .i64 L[k].value) rfl
      have d4 := made_cell wr #[.string L[k].code, .int .i64 L[k].kind, .string L[k].owner, .int .i64 L[k].value, .int .i64 L[k].age] 110 4 (.int .i64 L[k].age) rfl
      replace hb := hb.trans (B1.mono hb.size)
      replace hown := own_below hown B1
      clear B1
      have HB := Lib.hid hb
      have HW2 := Lib.hid hown
      clear hb hown HW
      cases hp : (L[k].owner.toList == s.toList)
      · have HQ : Hid (codesOf (L.take (k + 1)) s = M) := (codesOf_miss hlt hp).trans HM.out.symm
        go_wp2
        go_roundw
        case rel =>
          refine ⟨k + 1, B, cb, by omega, by go_num, by rw [HQ.out], ?_, HB.out⟩
          rw [HQ.out]
          exact HW2
        case measure => simp [intOf]; omega
      · have HQ : Hid (codesOf (L.take (k + 1)) s = M ++ [L[k].code]) := (codesOf_hit hlt hp).trans (by rw [HM.out])
        have HF : Hid (Texts.flat (M ++ [L[k].code]) = Texts.flat M ++ [.string L[k].code]) := by unfold Hid; simp [Texts.flat, Texts.cell]
        have hown := HW2.out
        have hs1 := HB.out.size
        try simp only [World.size_alloc] at hs1
        have H1 := Lib.hid (hown.alloc (.cells #[(.string L[k].code)] 9))
        go_wp2_with (at_builtin; refine wpList_append_own _ rfl _ _ 69 rfl (w.heap.size) 9 i0 _ 1 16 Try.underlying69 hi hz0 hz1 hz2 rfl (by decide) _ _ _ rfl H1.out ⟨wr.heap.size + 1, 0, none⟩ 1 1 [(.string L[k].code)] rfl rfl ?c1 ?c2 ?c3 ?c4 ?c5 ?_)
        case c1 => have h := cell_one_new (wr.alloc (.cells #[.string L[k].code, .int .i64 L[k].kind, .string L[k].owner, .int .i64 L[k].value, .int .i64 L[k].age] 110)) (.string L[k].code) 9; simp only [World.size_alloc] at h; exact h
        case c2 => intro u hu; simp at hu; subst hu; rfl
        case c3 => unfold maxLen; omega
        case c4 => omega
        case c5 => simp; omega
        intro v' w2 hown' hgr hnil
        have HB2 := Lib.hid ((HB.out.alloc HB.out.size (.cells #[(.string L[k].code)] 9)).grown hgr (by simp; omega) (fun g hg => (hown.lt g hg).1))
        obtain ⟨A2, cb2, rfl, _⟩ := own_shape hown'
        have H2 := Lib.hid hown'
        clear hown' hgr hnil hs1
        clear hown
        go_wp2
        go_roundw
        case rel =>
          refine ⟨k + 1, A2, cb2, by omega, by go_num, by rw [HQ.out, List.length_append]; rfl, ?_, HB2.out⟩
          rw [HQ.out, List.length_append, HF.out]
          exact H2
        case measure => simp [intOf]; omega
    · obtain rfl : k = L.length := by omega
      go_wp2
      go_ret2
      have e : M = codesOf L s := by rw [HM.out, List.take_length]
      have h2 := HW.out
      rw [e] at h2 ⊢
      exact ⟨B, cb, rfl, h2, hb⟩
end Go.Proofs.Ytfbafdnjjfmhjaa
