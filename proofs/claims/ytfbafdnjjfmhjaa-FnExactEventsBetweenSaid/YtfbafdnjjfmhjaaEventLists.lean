/-
  EventsOf, EventsBetween, TotalByKind on both sides.
-/
import Derived.Test.YtfbafdnjjfmhjaaLog
import Derived.Test.YtfbafdnjjfmhjaaEventFun
namespace Go.Proofs.Ytfbafdnjjfmhjaa
open Go.RowKit

def evOf (L : List Event) (s : ByteArray) : List Int × Int := if isLog L then (idxs (fun e => sEq e.interest s) L, 0) else ([], 1)
def evBetween (L : List Event) (a b : Int) : List Int × Int :=
  if isLog L then (if isDay a && isDay b then (idxs (fun e => inB e.day a b) L, 0) else ([], 2)) else ([], 1)

theorem evOf_len (L : List Event) (s : ByteArray) : (evOf L s).1.length ≤ L.length := by
  unfold evOf; split
  · dsimp only; exact idxs_len _ L
  · simp
theorem evBetween_len (L : List Event) (a b : Int) : (evBetween L a b).1.length ≤ L.length := by
  unfold evBetween; split
  · split
    · dsimp only; exact idxs_len _ L
    · simp
  · simp

set_option maxHeartbeats 400000 in
theorem evOfClosure (e : Event) (a : Addr) (s : ByteArray) (w : World) (hc : w.cell? a = some (.string s)) :
    Calls Try.prog 84 #[e.val, .pointer (some a)] w fun e' w' => e' = .returned (.bool (sEq e.interest s)) ∧ Below w.heap.size w w' := by
  have B1 : Below w.heap.size w (w.alloc (.cells #[.int .i64 e.day, .int .i64 e.kind, .string e.interest, .int .i64 e.amount, .bool e.peril, .bool e.voluntary, .bool e.reasonable] 26)) := (Below.refl _ _).alloc (Nat.le_refl _) _
  have hc1 := below_cell B1 hc
  have HB := Lib.hid B1
  clear hc B1
  go_enter Try.func84, Try.ntmps84
  go_wp2
  go_ret
  exact ⟨rfl, HB.out⟩

set_option maxHeartbeats 400000 in
theorem evBetweenClosure (e : Event) (a b : Addr) (x y : Int) (w : World) (hc : w.cell? a = some (.int .i64 x)) (hd : w.cell? b = some (.int .i64 y)) :
    Calls Try.prog 85 #[e.val, .pointer (some a), .pointer (some b)] w fun e' w' => e' = .returned (.bool (inB e.day x y)) ∧ Below w.heap.size w w' := by
  have B1 : Below w.heap.size w (w.alloc (.cells #[.int .i64 e.day, .int .i64 e.kind, .string e.interest, .int .i64 e.amount, .bool e.peril, .bool e.voluntary, .bool e.reasonable] 26)) := (Below.refl _ _).alloc (Nat.le_refl _) _
  have hc1 := below_cell B1 hc
  have hd1 := below_cell B1 hd
  have HB := Lib.hid B1
  clear hc hd B1
  go_enter Try.func85, Try.ntmps85
  go_wp2_with fail
  refine (in_any _ _ _ _).mono ?_
  rintro e w' ⟨rfl, rfl⟩
  go_wp2
  go_ret
  exact ⟨rfl, HB.out⟩

theorem made_code {w w' w1 : World} {L : List Int} {e : Ending} (hb : Below w.heap.size w w1) (h : Ints.Made w1 L e w') : ∃ A cap, e = .returned (.slice A L.length cap) ∧ w'.ownsRow w.heap.size 2 1 (.slice A L.length cap) L.length (Ints.flat L) ∧ Below w.heap.size w w' := by
  obtain ⟨A, cap, he, ho, hb2⟩ := h
  exact ⟨A, cap, he, own_base ho hb.size, hb.trans (hb2.mono hb.size)⟩

set_option maxHeartbeats 1000000 in
set_option maxRecDepth 100000 in
theorem EventsOf_impl (A : Option Addr) (cap : Nat) (L : List Event) (s : ByteArray) (w : World) (hL : Event.At w A L) (hs : ∀ s ∈ L, s.tiny) (hlen : L.length ≤ 1048576) :
    Calls Try.prog 31 #[.slice A L.length cap, .string s] w (Ints.MadeC w (evOf L s).1 (evOf L s).2) := by
  have B1 : Below w.heap.size w (w.alloc (.cells #[.string s] 9)) := (Below.refl _ _).alloc (Nat.le_refl _) _
  have HD := Lib.hid (made_cell w #[.string s] 9 0 (.string s) rfl)
  have HX := Lib.hid (isLog_impl A cap L _ (hL.below B1) hs (by omega))
  have HB := Lib.hid B1
  have HA := Lib.hid hL
  clear B1 hL
  cases hv : isLog L
  · rw [hv] at HX
    rw [evOf, hv]
    go_enter Try.func31, Try.ntmps31
    go_wp2_with fail
    refine HX.out.mono ?_
    rintro e w1 ⟨rfl, hb1⟩
    have hb := HB.out.trans (hb1.mono HB.out.size)
    clear hb1
    go_wp2
    go_ret2
    exact Ints.nilC hb
  · rw [hv] at HX
    rw [evOf, hv]
    go_enter Try.func31, Try.ntmps31
    go_wp2_with fail
    refine HX.out.mono ?_
    rintro e w1 ⟨rfl, hb1⟩
    have hb := HB.out.trans (hb1.mono HB.out.size)
    have H2 := Lib.hid (below_cell hb1 HD.out)
    clear hb1
    go_wp2_with fail
    refine (indicesEvent 84 #[.pointer (some ⟨w.heap.size, 0, none⟩)] A cap L (fun e => sEq e.interest s) w1 (HA.out.below hb) ⟨run_callFunc_enter Try.func84 (by kernel_rfl) (by kernel_rfl), fun w' hw x _ => evOfClosure x _ s w' (below_cell hw H2.out)⟩ hlen).mono ?_
    intro e w2 hm
    obtain ⟨D, cd, rfl, ho, hb2⟩ := made_code hb hm
    have HO := Lib.hid ho
    clear hb hm ho
    go_wp2
    go_ret2
    exact ⟨D, cd, rfl, HO.out, hb2⟩

set_option maxHeartbeats 1000000 in
set_option maxRecDepth 100000 in
theorem EventsBetween_impl (A : Option Addr) (cap : Nat) (L : List Event) (x y : Int) (w : World) (hL : Event.At w A L) (hs : ∀ s ∈ L, s.tiny) (hlen : L.length ≤ 1048576) :
    Calls Try.prog 33 #[.slice A L.length cap, .int .i64 x, .int .i64 y] w (Ints.MadeC w (evBetween L x y).1 (evBetween L x y).2) := by
  have B1 : Below w.heap.size w ((w.alloc (.cells #[.int .i64 x] 2)).alloc (.cells #[.int .i64 y] 2)) := ((Below.refl _ _).alloc (Nat.le_refl _) _).alloc (by simp) _
  have hd1 : ((w.alloc (.cells #[.int .i64 x] 2)).alloc (.cells #[.int .i64 y] 2)).cell? ⟨w.heap.size, 0, none⟩ = some (.int .i64 x) := (World.cell?_alloc_lt _ _ _ (by simp)).trans (made_cell w #[.int .i64 x] 2 0 (.int .i64 x) rfl)
  have hd2 : ((w.alloc (.cells #[.int .i64 x] 2)).alloc (.cells #[.int .i64 y] 2)).cell? ⟨w.heap.size + 1, 0, none⟩ = some (.int .i64 y) := by
    have := made_cell (w.alloc (.cells #[.int .i64 x] 2)) #[.int .i64 y] 2 0 (.int .i64 y) rfl
    rwa [World.size_alloc] at this
  have HD1 := Lib.hid hd1
  have HD2 := Lib.hid hd2
  have HX := Lib.hid (isLog_impl A cap L _ (hL.below B1) hs (by omega))
  have HB := Lib.hid B1
  have HA := Lib.hid hL
  clear B1 hL hd1 hd2
  cases hv : isLog L
  · rw [hv] at HX
    rw [evBetween, hv]
    go_enter Try.func33, Try.ntmps33
    go_wp2_with fail
    refine HX.out.mono ?_
    rintro e w1 ⟨rfl, hb1⟩
    have hb := HB.out.trans (hb1.mono HB.out.size)
    clear hb1
    go_wp2
    go_ret2
    exact Ints.nilC hb
  · rw [hv] at HX
    cases h1 : isDay x
    · rw [evBetween, hv, h1]
      go_enter Try.func33, Try.ntmps33
      go_wp2_with fail
      refine HX.out.mono ?_
      rintro e w1 ⟨rfl, hb1⟩
      have d1 := below_cell hb1 HD1.out
      have hb := HB.out.trans (hb1.mono HB.out.size)
      clear hb1
      go_wp2_with fail
      refine (calls_b h1 (isDay_any _ _)).mono ?_
      rintro e w2 ⟨rfl, hb2⟩
      have hb' := hb.trans (hb2.mono hb.size)
      clear hb hb2
      go_wp2
      go_ret2
      exact Ints.nilC hb'
    · cases h2 : isDay y
      · rw [evBetween, hv, h1, h2]
        go_enter Try.func33, Try.ntmps33
        go_wp2_with fail
        refine HX.out.mono ?_
        rintro e w1 ⟨rfl, hb1⟩
        have d1 := below_cell hb1 HD1.out
        have d2 := below_cell hb1 HD2.out
        have hb := HB.out.trans (hb1.mono HB.out.size)
        clear hb1
        go_wp2_with fail
        refine (calls_b h1 (isDay_any _ _)).mono ?_
        rintro e w2 ⟨rfl, hb2⟩
        replace d1 := below_cell hb2 d1
        replace d2 := below_cell hb2 d2
        have hb' := hb.trans (hb2.mono hb.size)
        clear hb hb2
        go_wp2_with fail
        refine (calls_b h2 (isDay_any _ _)).mono ?_
        rintro e w3 ⟨rfl, hb3⟩
        have hb'' := hb'.trans (hb3.mono hb'.size)
        clear hb' hb3
        go_wp2
        go_ret2
        exact Ints.nilC hb''
      · rw [evBetween, hv, h1, h2]
        go_enter Try.func33, Try.ntmps33
        go_wp2_with fail
        refine HX.out.mono ?_
        rintro e w1 ⟨rfl, hb1⟩
        have d1 := below_cell hb1 HD1.out
        have d2 := below_cell hb1 HD2.out
        have hb := HB.out.trans (hb1.mono HB.out.size)
        clear hb1
        go_wp2_with fail
        refine (calls_b h1 (isDay_any _ _)).mono ?_
        rintro e w2 ⟨rfl, hb2⟩
        replace d1 := below_cell hb2 d1
        replace d2 := below_cell hb2 d2
        have hb' := hb.trans (hb2.mono hb.size)
        clear hb hb2
        go_wp2_with fail
        refine (calls_b h2 (isDay_any _ _)).mono ?_
        rintro e w3 ⟨rfl, hb3⟩
        replace d1 := below_cell hb3 d1
        replace d2 := below_cell hb3 d2
        have hb'' := hb'.trans (hb3.mono hb'.size)
        have D1 := Lib.hid d1
        have D2 := Lib.hid d2
        clear hb' hb3 d1 d2
        go_wp2_with fail
        refine (indicesEvent 85 #[.pointer (some ⟨w.heap.size, 0, none⟩), .pointer (some ⟨w.heap.size + 1, 0, none⟩)] A cap L (fun e => inB e.day x y) w3 (HA.out.below hb'') ⟨run_callFunc_enter Try.func85 (by kernel_rfl) (by kernel_rfl), fun w' hw e _ => evBetweenClosure e _ _ x y w' (below_cell hw D1.out) (below_cell hw D2.out)⟩ hlen).mono ?_
        intro e w4 hm
        obtain ⟨D, cd, rfl, ho, hb2⟩ := made_code hb'' hm
        have HO := Lib.hid ho
        clear hb'' hm ho
        go_wp2
        go_ret2
        exact ⟨D, cd, rfl, HO.out, hb2⟩

set_option maxHeartbeats 2000000 in
set_option maxRecDepth 100000 in
theorem EventsOf_spec (A : Option Addr) (cap : Nat) (L : List Event) (s : ByteArray) (w : World) (hL : Event.At w A L) (hs : ∀ s ∈ L, s.tiny) (hlen : L.length ≤ 1048576) :
    Calls Try.prog 30 #[.slice A L.length cap, .string s] w (Ints.MadeC w (evOf L s).1 (evOf L s).2) := by
  have HX := Lib.hid (isLog_spec A cap L _ hL hs (by omega))
  have HL := Lib.hid hL.at_
  clear hL
  obtain ⟨i0, hi, hz0, hz1, hz2⟩ := info_parts Ints.info
  cases hv : isLog L
  · rw [hv] at HX
    rw [evOf, hv]
    go_enter Try.func30, Try.ntmps30
    go_wp2_with fail
    refine HX.out.mono ?_
    rintro e w1 ⟨rfl, hb⟩
    go_wp2
    go_ret2
    exact Ints.nilC hb
  rw [hv] at HX
  rw [evOf, hv]
  go_enter Try.func30, Try.ntmps30
  go_wp2_with fail
  refine HX.out.mono ?_
  rintro e w1 ⟨rfl, B1⟩
  have HO := Lib.hid (World.ownsRow_made (base := w.heap.size) (e := 2) (size := 1) w1 #[] 0 B1.size (by unfold maxLen; omega) (by simp))
  go_wp2
  go_loopw [6, 7] (fun o i wr => ∃ (k : Nat) (B : Option Addr) (cb : Nat), k ≤ L.length ∧ i = .int .i64 k ∧ o = .slice B (idxs (fun e : Event => sEq e.interest s) (L.take k)).length cb ∧ wr.ownsRow w.heap.size 2 1 (.slice B (idxs (fun e : Event => sEq e.interest s) (L.take k)).length cb) (idxs (fun e : Event => sEq e.interest s) (L.take k)).length (Ints.flat (idxs (fun e : Event => sEq e.interest s) (L.take k))) ∧ Below w.heap.size w wr) (fun _ i _ => L.length - (intOf i).toNat)
  case atStart => exact ⟨0, _, _, Nat.zero_le _, rfl, rfl, HO.out, B1.alloc B1.size _⟩
  case round =>
    obtain ⟨k, B, cb, hk, rfl, rfl, hown, hb⟩ := hrel
    obtain ⟨M, hMM⟩ : ∃ M, M = idxs (fun e : Event => sEq e.interest s) (L.take k) := ⟨_, rfl⟩
    rw [← hMM] at hown ⊢
    have hMl : M.length ≤ k := by rw [hMM]; exact Nat.le_trans (idxs_len (fun e : Event => sEq e.interest s) _) (by simp; omega)
    have HM := Lib.hid hMM
    have H0 := Lib.hid hown
    clear hMM hown
    by_cases hlt : k < L.length
    · obtain ⟨b, off, rfl, hlb, c0, c1, c2, c3, c4, c5, c6⟩ := HL.out k hlt
      replace c2 := (hb.cell hlb).trans c2
      cases hp : sEq L[k].interest s
      · have HQ := Lib.hid hp
        have hp2 : (L[k].interest.toList == s.toList) = false := hp
        go_wp2
        go_roundw
        case rel =>
          refine ⟨k + 1, B, cb, by omega, by go_num, by rw [idxs_miss (fun e : Event => sEq e.interest s) L hlt HQ.out, ← HM.out], ?_, hb⟩
          rw [idxs_miss (fun e : Event => sEq e.interest s) L hlt HQ.out, ← HM.out]
          exact H0.out
        case measure => simp [intOf]; omega
      · have HQ := Lib.hid hp
        have H1 := Lib.hid (H0.out.alloc (.cells #[.int .i64 k] 2))
        have hsz2 := hb.size
        have hp2 : (L[k].interest.toList == s.toList) = true := hp
        go_wp2_with (at_builtin; refine wpList_append_own _ rfl _ _ 36 rfl w.heap.size 2 i0 _ 1 8 Try.underlying36 hi hz0 hz1 hz2 rfl (by decide) _ _ _ rfl H1.out ⟨wr.heap.size, 0, none⟩ 1 1 [.int .i64 k] rfl rfl ?c1 ?c2 ?c3 ?c4 ?c5 ?_)
        case c1 => exact cell_one_new _ _ _
        case c2 => intro u hu; simp at hu; subst hu; rfl
        case c3 => unfold maxLen; omega
        case c4 => omega
        case c5 => simp; omega
        intro v' w2 hown' hgr hnil
        have HB3 := Lib.hid ((hb.alloc hb.size _).grown hgr (by simp; omega) (fun g hg => (H0.out.lt g hg).1))
        obtain ⟨A', cap', rfl, _⟩ := own_shape hown'
        have H2 := Lib.hid hown'
        clear hown' hgr hnil
        go_wp2
        go_roundw
        case rel =>
          have e : idxs (fun e : Event => sEq e.interest s) (L.take (k + 1)) = M ++ [(k : Int)] := by rw [idxs_hit (fun e : Event => sEq e.interest s) L hlt HQ.out, ← HM.out]
          refine ⟨k + 1, A', cap', by omega, by go_num, by rw [e, List.length_append]; rfl, ?_, HB3.out⟩
          rw [e, List.length_append, Ints.flat, List.flatMap_append]
          exact H2.out
        case measure => simp [intOf]; omega
    · obtain rfl : k = L.length := by omega
      go_wp2
      go_ret2
      have e : M = idxs (fun e : Event => sEq e.interest s) L := by rw [HM.out, List.take_length]
      rw [e] at H0 ⊢
      exact ⟨B, cb, rfl, H0.out, hb⟩

set_option maxHeartbeats 2000000 in
set_option maxRecDepth 100000 in
theorem EventsBetween_spec (A : Option Addr) (cap : Nat) (L : List Event) (x y : Int) (w : World) (hL : Event.At w A L) (hs : ∀ s ∈ L, s.tiny) (hlen : L.length ≤ 1048576) :
    Calls Try.prog 32 #[.slice A L.length cap, .int .i64 x, .int .i64 y] w (Ints.MadeC w (evBetween L x y).1 (evBetween L x y).2) := by
  have HX := Lib.hid (isLog_spec A cap L _ hL hs (by omega))
  have HL := Lib.hid hL.at_
  clear hL
  obtain ⟨i0, hi, hz0, hz1, hz2⟩ := info_parts Ints.info
  cases hv : isLog L
  · rw [hv] at HX
    rw [evBetween, hv]
    go_enter Try.func32, Try.ntmps32
    go_wp2_with fail
    refine HX.out.mono ?_
    rintro e w1 ⟨rfl, hb⟩
    go_wp2
    go_ret2
    exact Ints.nilC hb
  rw [hv] at HX
  cases h1 : isDay x
  · rw [evBetween, hv, h1]
    go_enter Try.func32, Try.ntmps32
    go_wp2_with fail
    refine HX.out.mono ?_
    rintro e w1 ⟨rfl, hb⟩
    go_wp2_with fail
    refine (calls_b h1 (l02Is_any _ _)).mono ?_
    rintro e w2 ⟨rfl, rfl⟩
    go_wp2
    go_ret2
    exact Ints.nilC hb
  cases h2 : isDay y
  · rw [evBetween, hv, h1, h2]
    go_enter Try.func32, Try.ntmps32
    go_wp2_with fail
    refine HX.out.mono ?_
    rintro e w1 ⟨rfl, hb⟩
    go_wp2_with fail
    refine (calls_b h1 (l02Is_any _ _)).mono ?_
    rintro e w2 ⟨rfl, rfl⟩
    go_wp2_with fail
    refine (calls_b h2 (l02Is_any _ _)).mono ?_
    rintro e w2 ⟨rfl, rfl⟩
    go_wp2
    go_ret2
    exact Ints.nilC hb
  rw [evBetween, hv, h1, h2]
  go_enter Try.func32, Try.ntmps32
  go_wp2_with fail
  refine HX.out.mono ?_
  rintro e w1 ⟨rfl, B1⟩
  have HO := Lib.hid (World.ownsRow_made (base := w.heap.size) (e := 2) (size := 1) w1 #[] 0 B1.size (by unfold maxLen; omega) (by simp))
  go_wp2_with fail
  refine (calls_b h1 (l02Is_any _ _)).mono ?_
  rintro e w2 ⟨rfl, rfl⟩
  go_wp2_with fail
  refine (calls_b h2 (l02Is_any _ _)).mono ?_
  rintro e w2 ⟨rfl, rfl⟩
  clear h1 h2
  go_wp2
  go_loopw [8, 9] (fun o i wr => ∃ (k : Nat) (B : Option Addr) (cb : Nat), k ≤ L.length ∧ i = .int .i64 k ∧ o = .slice B (idxs (fun e : Event => inB e.day x y) (L.take k)).length cb ∧ wr.ownsRow w.heap.size 2 1 (.slice B (idxs (fun e : Event => inB e.day x y) (L.take k)).length cb) (idxs (fun e : Event => inB e.day x y) (L.take k)).length (Ints.flat (idxs (fun e : Event => inB e.day x y) (L.take k))) ∧ Below w.heap.size w wr) (fun _ i _ => L.length - (intOf i).toNat)
  case atStart => exact ⟨0, _, _, Nat.zero_le _, rfl, rfl, HO.out, B1.alloc B1.size _⟩
  case round =>
    obtain ⟨k, B, cb, hk, rfl, rfl, hown, hb⟩ := hrel
    obtain ⟨M, hMM⟩ : ∃ M, M = idxs (fun e : Event => inB e.day x y) (L.take k) := ⟨_, rfl⟩
    rw [← hMM] at hown ⊢
    have hMl : M.length ≤ k := by rw [hMM]; exact Nat.le_trans (idxs_len (fun e : Event => inB e.day x y) _) (by simp; omega)
    have HM := Lib.hid hMM
    have H0 := Lib.hid hown
    clear hMM hown
    by_cases hlt : k < L.length
    · obtain ⟨b, off, rfl, hlb, c0, c1, c2, c3, c4, c5, c6⟩ := HL.out k hlt
      replace c0 := (hb.cell hlb).trans c0
      cases hp : inB L[k].day x y
      · have HQ := Lib.hid hp
        go_wp2_with fail
        refine (calls_b hp (l01In_any _ _ _ _)).mono ?_
        rintro e w2 ⟨rfl, rfl⟩
        clear hp
        go_wp2
        go_roundw
        case rel =>
          refine ⟨k + 1, B, cb, by omega, by go_num, by rw [idxs_miss (fun e : Event => inB e.day x y) L hlt HQ.out, ← HM.out], ?_, hb⟩
          rw [idxs_miss (fun e : Event => inB e.day x y) L hlt HQ.out, ← HM.out]
          exact H0.out
        case measure => simp [intOf]; omega
      · have HQ := Lib.hid hp
        have H1 := Lib.hid (H0.out.alloc (.cells #[.int .i64 k] 2))
        have hsz2 := hb.size
        go_wp2_with fail
        refine (calls_b hp (l01In_any _ _ _ _)).mono ?_
        rintro e w2 ⟨rfl, rfl⟩
        clear hp
        go_wp2_with (at_builtin; refine wpList_append_own _ rfl _ _ 36 rfl w.heap.size 2 i0 _ 1 8 Try.underlying36 hi hz0 hz1 hz2 rfl (by decide) _ _ _ rfl H1.out ⟨wr.heap.size, 0, none⟩ 1 1 [.int .i64 k] rfl rfl ?c1 ?c2 ?c3 ?c4 ?c5 ?_)
        case c1 => exact cell_one_new _ _ _
        case c2 => intro u hu; simp at hu; subst hu; rfl
        case c3 => unfold maxLen; omega
        case c4 => omega
        case c5 => simp; omega
        intro v' w2 hown' hgr hnil
        have HB3 := Lib.hid ((hb.alloc hb.size _).grown hgr (by simp; omega) (fun g hg => (H0.out.lt g hg).1))
        obtain ⟨A', cap', rfl, _⟩ := own_shape hown'
        have H2 := Lib.hid hown'
        clear hown' hgr hnil
        go_wp2
        go_roundw
        case rel =>
          have e : idxs (fun e : Event => inB e.day x y) (L.take (k + 1)) = M ++ [(k : Int)] := by rw [idxs_hit (fun e : Event => inB e.day x y) L hlt HQ.out, ← HM.out]
          refine ⟨k + 1, A', cap', by omega, by go_num, by rw [e, List.length_append]; rfl, ?_, HB3.out⟩
          rw [e, List.length_append, Ints.flat, List.flatMap_append]
          exact H2.out
        case measure => simp [intOf]; omega
    · obtain rfl : k = L.length := by omega
      go_wp2
      go_ret2
      have e : M = idxs (fun e : Event => inB e.day x y) L := by rw [HM.out, List.take_length]
      rw [e] at H0 ⊢
      exact ⟨B, cb, rfl, H0.out, hb⟩
end Go.Proofs.Ytfbafdnjjfmhjaa
