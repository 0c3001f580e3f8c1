/-
  The functions on voyages that return numbers and texts: LastDay, DaysAtSea, PortOn, LegOn, on both sides.
-/
import Derived.Test.YtecdneaheeepdaaVoyage
import Derived.Test.YtecdneaheeepdaaStopFun
import Derived.Test.YtecdneaheeepdaaIntsFun
namespace Go.Proofs.Ytecdneaheeepdaa
open Go.RowKit

theorem calls_v {P : Program} {f : FuncId} {args : Array Value} {w : World} {v v' : Value} {R : World → Prop} (e : v = v') (h : Calls P f args w fun e w' => e = .returned v ∧ R w') : Calls P f args w fun e w' => e = .returned v' ∧ R w' := by rwa [e] at h

theorem stopsFrom_all : ∀ (L : List Stop) (p : Option Int), stopsFrom p L = true → ∀ s ∈ L, s.okB = true
  | [], _, _, s, hs => by simp at hs
  | a :: L, p, h, s, hs => by
    simp only [stopsFrom, Bool.and_eq_true] at h
    rcases List.mem_cons.1 hs with rfl | hs
    · exact h.1.1
    · exact stopsFrom_all L _ h.2 s hs
theorem voyage_len {L : List Stop} (h : isVoyage L = true) : 1 ≤ L.length ∧ L.length ≤ 10 := by
  simp only [isVoyage, Bool.and_eq_true, inB_iff] at h; omega
theorem voyage_ok {L : List Stop} (h : isVoyage L = true) : ∀ s ∈ L, s.okB = true := by
  simp only [isVoyage, Bool.and_eq_true] at h; exact stopsFrom_all L _ h.1
theorem ok_bd {s : Stop} (h : s.okB = true) : 0 ≤ s.inn ∧ s.inn ≤ s.out ∧ s.out ≤ 36524 := by
  simp only [Stop.okB, Bool.and_eq_true, isDay, inB_iff, decide_eq_true_eq] at h; omega

def lastOut (L : List Stop) : Int := (L.getLast?.map (·.out)).getD 0
theorem lastOut_succ {L : List Stop} {j : Nat} (h : L.length = j + 1) : lastOut L = (L[j]'(by omega)).out := by
  unfold lastOut
  rw [List.getLast?_eq_getElem?, show L.length - 1 = j from by omega, List.getElem?_eq_getElem (by omega)]; rfl
def lastDayR (L : List Stop) : Int × Int := if isVoyage L then (lastOut L, 0) else (0, 1)

set_option maxHeartbeats 400000 in
theorem lastDay_any (A : Option Addr) (cap : Nat) (L : List Stop) (w : World) (hL : Stop.At w A L) (h1 : 1 ≤ L.length) (hlen : L.length ≤ 9223372036854775807) :
    Calls Try.prog 45 #[.slice A L.length cap] w fun e w' => e = .returned (.int .i64 (lastOut L)) ∧ w = w' := by
  obtain ⟨j, hj⟩ : ∃ j, L.length = j + 1 := ⟨L.length - 1, by omega⟩
  obtain ⟨b, off, rfl, hlb, c0, c1, c2⟩ := hL.at_ j (by omega)
  rw [← lastOut_succ hj] at c2
  rw [hj] at hlen ⊢
  have HJ := Lib.hid hj
  clear h1 hL c0 c1 hj
  go_enter Try.func45, Try.ntmps45
  go_wp2
  go_ret
  exact ⟨rfl, rfl⟩

set_option maxHeartbeats 400000 in
theorem LastDay_impl (A : Option Addr) (cap : Nat) (L : List Stop) (w : World) (hL : Stop.At w A L) (hs : ∀ s ∈ L, s.tiny) (hlen : L.length ≤ 9223372036854775807) :
    Calls Try.prog 17 #[.slice A L.length cap] w fun e w' => e = .returned (.tuple #[.int .i64 (lastDayR L).1, .int .i64 (lastDayR L).2]) ∧ Below w.heap.size w w' := by
  have HX := Lib.hid (isVoyage_impl A cap L w hL hs hlen)
  cases hv : isVoyage L
  · rw [hv] at HX
    rw [lastDayR, hv]
    go_enter Try.func17, Try.ntmps17
    go_wp2_with fail
    refine HX.out.mono ?_
    rintro e w1 ⟨rfl, hb1⟩
    go_wp2
    go_ret2
    exact ⟨rfl, hb1⟩
  · rw [hv] at HX
    have hl := (voyage_len hv).1
    rw [lastDayR, hv]
    go_enter Try.func17, Try.ntmps17
    go_wp2_with fail
    refine HX.out.mono ?_
    rintro e w1 ⟨rfl, hb1⟩
    go_wp2_with fail
    refine (lastDay_any A cap L w1 (hL.below hb1) hl hlen).mono ?_
    rintro e w2 ⟨rfl, rfl⟩
    go_wp2
    go_ret2
    exact ⟨rfl, hb1⟩

set_option maxHeartbeats 400000 in
theorem LastDay_spec (A : Option Addr) (cap : Nat) (L : List Stop) (w : World) (hL : Stop.At w A L) (hs : ∀ s ∈ L, s.tiny) (hlen : L.length ≤ 9223372036854775807) :
    Calls Try.prog 16 #[.slice A L.length cap] w fun e w' => e = .returned (.tuple #[.int .i64 (lastDayR L).1, .int .i64 (lastDayR L).2]) ∧ Below w.heap.size w w' := by
  have HX := Lib.hid (isVoyage_spec A cap L w hL hs hlen)
  cases hv : isVoyage L
  · rw [hv] at HX
    rw [lastDayR, hv]
    go_enter Try.func16, Try.ntmps16
    go_wp2_with fail
    refine HX.out.mono ?_
    rintro e w1 ⟨rfl, hb1⟩
    go_wp2
    go_ret2
    exact ⟨rfl, hb1⟩
  · rw [hv] at HX
    have hl := (voyage_len hv).1
    obtain ⟨j, hj⟩ : ∃ j, L.length = j + 1 := ⟨L.length - 1, by omega⟩
    obtain ⟨b, off, rfl, hlb, c0, c1, c2⟩ := hL.at_ j (by omega)
    rw [lastDayR, hv]
    rw [← lastOut_succ hj] at c2
    rw [hj] at HX hlen ⊢
    have HJ := Lib.hid hj
    have H2 := Lib.hid c2
    clear hl hL c0 c1 c2 hj hs hv
    go_enter Try.func16, Try.ntmps16
    go_wp2_with fail
    refine HX.out.mono ?_
    rintro e w1 ⟨rfl, hb1⟩
    have c2 := below_cell hb1 H2.out
    go_wp2
    go_ret2
    exact ⟨rfl, hb1⟩

/-! ### voyaged -/
def voyCode (L : List Stop) (ds : List Int) : Int := if isVoyage L then (if ds.all isDay then 0 else 2) else 1
theorem fun_isDay (W : World) (ds : List Int) : Fun1 Try.prog 43 #[] W (Value.int .i64) isDay ds :=
  ⟨run_callFunc_enter Try.func43 (by kernel_rfl) (by kernel_rfl), fun w' _ x _ => isDay_any x w'⟩

set_option maxHeartbeats 400000 in
theorem voyaged_any (A D : Option Addr) (cap cd : Nat) (L : List Stop) (ds : List Int) (w : World) (hL : Stop.At w A L) (hD : Ints.At w D ds) (hs : ∀ s ∈ L, s.tiny) (hlen : L.length ≤ 9223372036854775807) (hd : ds.length ≤ 9223372036854775807) :
    Calls Try.prog 46 #[.slice A L.length cap, .slice D ds.length cd] w fun e w' => e = .returned (.int .i64 (voyCode L ds)) ∧ Below w.heap.size w w' := by
  have HX := Lib.hid (isVoyage_impl A cap L w hL hs hlen)
  cases hv : isVoyage L
  · rw [hv] at HX
    rw [voyCode, hv]
    go_enter Try.func46, Try.ntmps46
    go_wp2_with fail
    refine HX.out.mono ?_
    rintro e w1 ⟨rfl, hb1⟩
    go_wp2
    go_ret
    exact ⟨rfl, hb1⟩
  · rw [hv] at HX
    cases ha : ds.all isDay
    all_goals
      rw [voyCode, hv, ha]
      go_enter Try.func46, Try.ntmps46
      go_wp2_with fail
      refine HX.out.mono ?_
      rintro e w1 ⟨rfl, hb1⟩
      go_wp2_with fail
      refine (calls_b ha (allInts 43 #[] D cd ds isDay w1 (hD.below hb1) (fun_isDay w1 ds) hd)).mono ?_
      rintro e w2 ⟨rfl, hb2⟩
      have hb := hb1.trans (hb2.mono hb1.size)
      clear hb1 hb2
      go_wp2
      go_ret
      exact ⟨rfl, hb⟩

theorem ints1 (w : World) (a : Int) : Ints.At (w.alloc (.cells #[.int .i64 a] 2)) (some ⟨w.heap.size, 0, none⟩) [a] :=
  ⟨rfl, fun _ => ⟨_, 0, rfl, by simp, fun j u hu => by
    rw [World.cell?_alloc_mark, Nat.zero_add]; simpa [Ints.flat, Ints.cell] using hu⟩⟩
theorem ints2 (w : World) (a b : Int) : Ints.At (w.alloc (.cells #[.int .i64 a, .int .i64 b] 2)) (some ⟨w.heap.size, 0, none⟩) [a, b] :=
  ⟨rfl, fun _ => ⟨_, 0, rfl, by simp, fun j u hu => by
    rw [World.cell?_alloc_mark, Nat.zero_add]; simpa [Ints.flat, Ints.cell] using hu⟩⟩

/-! ### DaysAtSea -/
def gap (L : List Stop) (from_ to_ : Int) (k : Nat) : Int := match L[k]?, L[k + 1]? with
  | some a, some b => max 0 (min to_ (b.inn - 1) - max from_ (a.out + 1) + 1)
  | _, _ => 0
def gaps (L : List Stop) (from_ to_ : Int) : Nat → Int
  | 0 => 0
  | k + 1 => gaps L from_ to_ k + gap L from_ to_ k
def seaR (L : List Stop) (from_ to_ : Int) : Int × Int := if isVoyage L then (if isDay from_ && isDay to_ then (gaps L from_ to_ (L.length - 1), 0) else (0, 2)) else (0, 1)
theorem gap_at {L : List Stop} {from_ to_ : Int} {k : Nat} (h : k + 1 < L.length) : gap L from_ to_ k = max 0 (min to_ (L[k + 1].inn - 1) - max from_ ((L[k]'(by omega)).out + 1) + 1) := by
  simp [gap, h, show k < L.length from by omega]
theorem gap_bd {L : List Stop} {from_ to_ : Int} (hok : ∀ s ∈ L, s.okB = true) (h0 : 0 ≤ from_) (h1 : to_ ≤ 36524) (k : Nat) : 0 ≤ gap L from_ to_ k ∧ gap L from_ to_ k ≤ 36525 := by
  by_cases h : k + 1 < L.length
  · rw [gap_at h]
    have := ok_bd (hok _ (List.getElem_mem h))
    omega
  · simp [gap, show ¬ k + 1 < L.length from h]
theorem gaps_bd {L : List Stop} {from_ to_ : Int} (hok : ∀ s ∈ L, s.okB = true) (h0 : 0 ≤ from_) (h1 : to_ ≤ 36524) : ∀ k : Nat, 0 ≤ gaps L from_ to_ k ∧ gaps L from_ to_ k ≤ 36525 * k
  | 0 => by simp [gaps]
  | k + 1 => by have := gaps_bd hok h0 h1 k; have := gap_bd hok h0 h1 k; simp only [gaps]; omega

set_option maxHeartbeats 1000000 in
theorem DaysAtSea_spec (A : Option Addr) (cap : Nat) (L : List Stop) (from_ to_ : Int) (w : World) (hL : Stop.At w A L) (hs : ∀ s ∈ L, s.tiny) (hlen : L.length ≤ 9223372036854775807) :
    Calls Try.prog 18 #[.slice A L.length cap, .int .i64 from_, .int .i64 to_] w fun e w' => e = .returned (.tuple #[.int .i64 (seaR L from_ to_).1, .int .i64 (seaR L from_ to_).2]) ∧ Below w.heap.size w w' := by
  have HX := Lib.hid (isVoyage_spec A cap L w hL hs hlen)
  have HL := Lib.hid hL.at_
  cases hv : isVoyage L
  · rw [hv] at HX
    rw [seaR, hv]
    go_enter Try.func18, Try.ntmps18
    go_wp2_with fail
    refine HX.out.mono ?_
    rintro e w1 ⟨rfl, hb1⟩
    go_wp2
    go_ret2
    exact ⟨rfl, hb1⟩
  · rw [hv] at HX
    cases h1 : isDay from_
    · rw [seaR, hv, h1]
      go_enter Try.func18, Try.ntmps18
      go_wp2_with fail
      refine HX.out.mono ?_
      rintro e w1 ⟨rfl, hb1⟩
      go_wp2_with fail
      refine (calls_b h1 (l02Is_any _ _)).mono ?_
      rintro e w2 ⟨rfl, rfl⟩
      go_wp2
      go_ret2
      exact ⟨rfl, hb1⟩
    · cases h2 : isDay to_
      · rw [seaR, hv, h1, h2]
        go_enter Try.func18, Try.ntmps18
        go_wp2_with fail
        refine HX.out.mono ?_
        rintro e w1 ⟨rfl, hb1⟩
        go_wp2_with fail
        refine (calls_b h1 (l02Is_any _ _)).mono ?_
        rintro e w2 ⟨rfl, rfl⟩
        go_wp2_with fail
        refine (calls_b h2 (l02Is_any _ _)).mono ?_
        rintro e w2 ⟨rfl, rfl⟩
        go_wp2
        go_ret2
        exact ⟨rfl, hb1⟩
      · have hok := voyage_ok hv
        have hlv := voyage_len hv
        have hf := inB_iff.1 h1
        have ht := inB_iff.1 h2
        have HG := Lib.hid (gaps_bd (L := L) hok hf.1 ht.2)
        have HO := Lib.hid hok
        rw [seaR, hv, h1, h2]
        clear hok hL hs
        go_enter Try.func18, Try.ntmps18
        go_wp2_with fail
        refine HX.out.mono ?_
        rintro e w1 ⟨rfl, hb1⟩
        go_wp2_with fail
        refine (calls_b h1 (l02Is_any _ _)).mono ?_
        rintro e w2 ⟨rfl, rfl⟩
        go_wp2_with fail
        refine (calls_b h2 (l02Is_any _ _)).mono ?_
        rintro e w2 ⟨rfl, rfl⟩
        clear h1 h2 hv
        go_wp2
        go_loopw [8, 9] (fun n i wr => ∃ k : Nat, k + 1 ≤ L.length ∧ i = .int .i64 ((k : Int) + 1) ∧ n = .int .i64 (gaps L from_ to_ k) ∧ Below w.heap.size w wr) (fun _ i _ => L.length + 1 - (intOf i).toNat)
        case atStart => exact ⟨0, by omega, rfl, rfl, hb1⟩
        case round =>
          obtain ⟨k, hk, rfl, rfl, hb⟩ := hrel
          have hg := HG.out k
          by_cases hlt : k + 1 < L.length
          · obtain ⟨b, off, rfl, hlb, _, _, c2⟩ := HL.out k (by omega)
            obtain ⟨b', off', he, _, _, d1, _⟩ := HL.out (k + 1) hlt
            obtain ⟨rfl, rfl⟩ : b = b' ∧ off = off' := by injection he with he; injection he with he1 he2; exact ⟨he1, he2⟩
            clear he
            have o0 := ok_bd (HO.out _ (List.getElem_mem (show k < L.length by omega)))
            have o1 := ok_bd (HO.out _ (List.getElem_mem hlt))
            replace c2 := fun x : BW wr => x.cell ((hb.cell hlb).trans c2)
            replace d1 := fun x : BW wr => x.cell ((hb.cell hlb).trans d1)
            go_wp2
            refine wp_region_bw (by kernel_rfl) (by kernel_rfl) ?_
            repeat (go_big_quiet_step (fail))
            refine wpQuiet_nil ?_
            intro wq hx
            have hq := bw_out hx
            clear hx c2 d1
            have hlo : 0 ≤ (if from_ < L[k].out + 1 then L[k].out + 1 else from_) ∧ (if from_ < L[k].out + 1 then L[k].out + 1 else from_) ≤ 36525 := by split <;> omega
            have hhi : -1 ≤ (if L[k + 1].inn - 1 < to_ then L[k + 1].inn - 1 else to_) ∧ (if L[k + 1].inn - 1 < to_ then L[k + 1].inn - 1 else to_) ≤ 36525 := by split <;> omega
            generalize hx : (if from_ < L[k].out + 1 then L[k].out + 1 else from_) = lo at hlo ⊢
            generalize hy : (if L[k + 1].inn - 1 < to_ then L[k + 1].inn - 1 else to_) = hi at hhi ⊢
            have HE : Hid (gap L from_ to_ k = max 0 (hi - lo + 1)) := by
              unfold Hid; rw [gap_at hlt, ← hx, ← hy]; split <;> split <;> omega
            clear hx hy o0 o1
            go_wp2
            go_roundw
            case rel =>
              refine ⟨k + 1, by omega, by go_num, ?_, hb.trans (hq.mono hb.size)⟩
              rw [gaps, HE.out]
              congr 1
              split <;> omega
            case measure => simp [intOf]; omega
          · obtain rfl : k = L.length - 1 := by omega
            go_wp2
            go_ret2
            exact ⟨rfl, hb⟩

set_option maxHeartbeats 1000000 in
theorem DaysAtSea_impl (A : Option Addr) (cap : Nat) (L : List Stop) (from_ to_ : Int) (w : World) (hL : Stop.At w A L) (hs : ∀ s ∈ L, s.tiny) (hlen : L.length ≤ 9223372036854775807) :
    Calls Try.prog 19 #[.slice A L.length cap, .int .i64 from_, .int .i64 to_] w fun e w' => e = .returned (.tuple #[.int .i64 (seaR L from_ to_).1, .int .i64 (seaR L from_ to_).2]) ∧ Below w.heap.size w w' := by
  have B1 : Below w.heap.size w (w.alloc (.cells #[.int .i64 from_, .int .i64 to_] 2)) := (Below.refl _ _).alloc (Nat.le_refl _) _
  have HX := Lib.hid (voyaged_any A (some ⟨w.heap.size, 0, none⟩) cap 2 L [from_, to_] _ (hL.below B1) (ints2 w from_ to_) hs hlen (by simp))
  have HL := Lib.hid hL.at_
  have HB := Lib.hid B1
  clear B1
  by_cases hc : voyCode L [from_, to_] = 0
  · have hv : isVoyage L = true := by unfold voyCode at hc; split at hc; assumption; simp at hc
    have hd : isDay from_ = true ∧ isDay to_ = true := by
      rw [voyCode, if_pos hv] at hc
      split at hc
      · rename_i h; simpa using h
      · simp at hc
    rw [hc] at HX
    have hok := voyage_ok hv
    have hlv := voyage_len hv
    have hf := inB_iff.1 hd.1
    have ht := inB_iff.1 hd.2
    have HG := Lib.hid (gaps_bd (L := L) hok hf.1 ht.2)
    have HO := Lib.hid hok
    have er : seaR L from_ to_ = (gaps L from_ to_ (L.length - 1), 0) := by simp [seaR, hv, hd]
    rw [er]
    clear hok hL hs hv hd hc er
    go_enter Try.func19, Try.ntmps19
    go_wp2_with fail
    refine HX.out.mono ?_
    rintro e w1 ⟨rfl, hb1⟩
    have hb1' := HB.out.trans (hb1.mono HB.out.size)
    clear hb1
    go_wp2
    go_loopw [9, 10] (fun n i wr => ∃ k : Nat, k + 1 ≤ L.length ∧ i = .int .i64 ((k : Int) + 1) ∧ n = .int .i64 (gaps L from_ to_ k) ∧ Below w.heap.size w wr) (fun _ i _ => L.length + 1 - (intOf i).toNat)
    case atStart => exact ⟨0, by omega, rfl, rfl, hb1'⟩
    case round =>
      obtain ⟨k, hk, rfl, rfl, hb⟩ := hrel
      have hg := HG.out k
      by_cases hlt : k + 1 < L.length
      · obtain ⟨b, off, rfl, hlb, _, _, c2⟩ := HL.out k (by omega)
        obtain ⟨b', off', he, _, _, d1, _⟩ := HL.out (k + 1) hlt
        obtain ⟨rfl, rfl⟩ : b = b' ∧ off = off' := by injection he with he; injection he with he1 he2; exact ⟨he1, he2⟩
        clear he
        have o0 := ok_bd (HO.out _ (List.getElem_mem (show k < L.length by omega)))
        have o1 := ok_bd (HO.out _ (List.getElem_mem hlt))
        replace c2 := fun x : BW wr => x.cell ((hb.cell hlb).trans c2)
        replace d1 := fun x : BW wr => x.cell ((hb.cell hlb).trans d1)
        go_wp2
        refine wp_region_bw (by kernel_rfl) (by kernel_rfl) ?_
        repeat (go_big_quiet_step (fail))
        refine wpQuiet_nil ?_
        intro wq hx
        have hq := bw_out hx
        have HE := Lib.hid (gap_at (from_ := from_) (to_ := to_) hlt)
        clear hx c2 d1
        go_wp2
        go_roundw
        case rel =>
          refine ⟨k + 1, by omega, by go_num, ?_, hb.trans (hq.mono hb.size)⟩
          rw [gaps, HE.out]
          congr 1
          (repeat' split) <;> omega
        case measure => simp [intOf]; omega
      · obtain rfl : k = L.length - 1 := by omega
        go_wp2
        go_ret2
        exact ⟨rfl, hb⟩
  · have hc2 : seaR L from_ to_ = (0, voyCode L [from_, to_]) := by
      cases h0 : isVoyage L <;> cases h1 : isDay from_ <;> cases h2 : isDay to_ <;> simp [seaR, voyCode, h0, h1, h2] at hc ⊢
    have HC := Lib.hid hc
    have hne : (voyCode L [from_, to_] != 0) = true := by rw [bne_iff_ne]; exact hc
    rw [hc2]
    clear hc hc2
    go_enter Try.func19, Try.ntmps19
    go_wp2_with fail
    refine HX.out.mono ?_
    rintro e w1 ⟨rfl, hb1⟩
    have hb1' := HB.out.trans (hb1.mono HB.out.size)
    clear hb1
    go_wp2
    go_ret2
    exact ⟨rfl, hb1'⟩

/-! ### PortOn and LegOn -/
def onB (day : Int) (s : Stop) : Bool := inB day s.inn s.out
def placeCode (L : List Stop) (day : Int) : Int :=
  if isVoyage L then (if isDay day then (if inB day ((L.head?.map (·.inn)).getD 0) (lastOut L) then 0 else 4) else 2) else 1
def portAt (L : List Stop) (day : Int) : ByteArray := ((L.find? (onB day)).map (·.port)).getD ⟨#[]⟩
def portR (L : List Stop) (day : Int) : ByteArray × Int := if placeCode L day = 0 then (portAt L day, 0) else (⟨#[]⟩, placeCode L day)
def before (L : List Stop) (day : Int) : Int := (L.countP (fun s => decide (s.out < day)) : Nat)
def legR (L : List Stop) (day : Int) : Int × Int :=
  if placeCode L day = 0 then (if L.any (onB day) then (0, 5) else (before L day - 1, 0)) else (0, placeCode L day)

set_option maxHeartbeats 1000000 in
theorem l07Code_any (A : Option Addr) (cap : Nat) (L : List Stop) (day : Int) (w : World) (hL : Stop.At w A L) (hs : ∀ s ∈ L, s.tiny) (hlen : L.length ≤ 9223372036854775807) :
    Calls Try.prog 47 #[.slice A L.length cap, .int .i64 day] w fun e w' => e = .returned (.int .i64 (placeCode L day)) ∧ Below w.heap.size w w' := by
  have HX := Lib.hid (isVoyage_spec A cap L w hL hs hlen)
  cases hv : isVoyage L
  · rw [hv] at HX
    rw [placeCode, hv]
    go_enter Try.func47, Try.ntmps47
    go_wp2_with fail
    refine HX.out.mono ?_
    rintro e w1 ⟨rfl, hb1⟩
    go_wp2
    go_ret
    exact ⟨rfl, hb1⟩
  · rw [hv] at HX
    cases h1 : isDay day
    · rw [placeCode, hv, h1]
      go_enter Try.func47, Try.ntmps47
      go_wp2_with fail
      refine HX.out.mono ?_
      rintro e w1 ⟨rfl, hb1⟩
      go_wp2_with fail
      refine (calls_b h1 (l02Is_any _ _)).mono ?_
      rintro e w2 ⟨rfl, rfl⟩
      go_wp2
      go_ret
      exact ⟨rfl, hb1⟩
    · have hl := (voyage_len hv).1
      obtain ⟨j, hj⟩ : ∃ j, L.length = j + 1 := ⟨L.length - 1, by omega⟩
      obtain ⟨b, off, rfl, hlb, c0, c1, c2⟩ := hL.at_ j (by omega)
      obtain ⟨b', off', he, _, d0, d1, d2⟩ := hL.at_ 0 (by omega)
      obtain ⟨rfl, rfl⟩ : b = b' ∧ off = off' := by injection he with he; injection he with he1 he2; exact ⟨he1, he2⟩
      have hh : (L.head?.map (·.inn)).getD 0 = (L[0]'(by omega)).inn := by cases L with
        | nil => simp at hl
        | cons a L => rfl
      have e1 : placeCode L day = if inB day (L[0]'(by omega)).inn (lastOut L) then 0 else 4 := by rw [placeCode, hv, h1, hh]; rfl
      rw [← lastOut_succ hj] at c2
      generalize (L[0]'(by omega)).inn = first at d1 e1
      rw [e1]
      generalize lastOut L = last at c2 ⊢
      rw [hj] at HX hlen ⊢
      have H2 := Lib.hid c2
      have H3 := Lib.hid d1
      clear hl hL c0 c1 c2 d0 d1 d2 hj hs hv he hh e1
      go_enter Try.func47, Try.ntmps47
      go_wp2_with fail
      refine HX.out.mono ?_
      rintro e w1 ⟨rfl, hb1⟩
      go_wp2_with fail
      refine (calls_b h1 (l02Is_any _ _)).mono ?_
      rintro e w2 ⟨rfl, rfl⟩
      have c2 := below_cell hb1 H2.out
      have d1 := below_cell hb1 H3.out
      rw [Nat.zero_mul, Nat.add_zero] at d1
      go_wp2
      all_goals
        go_ret
        refine ⟨?_, hb1⟩
        simp_all [inB]
        try omega

set_option maxHeartbeats 1000000 in
theorem l07Port_any (A : Option Addr) (cap : Nat) (L : List Stop) (day : Int) (w : World) (hL : Stop.At w A L) (hlen : L.length ≤ 9223372036854775807) :
    Calls Try.prog 48 #[.slice A L.length cap, .int .i64 day] w fun e w' => e = .returned (.int .i64 (idx (onB day) L)) ∧ Below w.heap.size w w' := by
  have HL := Lib.hid hL.at_
  clear hL
  go_enter Try.func48, Try.ntmps48
  go_wp2
  go_loopw [5] (fun i wr => ∃ k : Nat, k ≤ L.length ∧ i = .int .i64 k ∧ Hid (∀ x ∈ L.take k, onB day x = false) ∧ Below w.heap.size w wr) (fun i _ => L.length - (intOf i).toNat)
  case atStart => exact ⟨0, Nat.zero_le _, rfl, (by simp [Hid]), Below.refl _ _⟩
  case round =>
    obtain ⟨k, hk, rfl, HP, hb⟩ := hrel
    by_cases hlt : k < L.length
    · obtain ⟨b, off, rfl, hlb, c0, c1, c2⟩ := HL.out k hlt
      replace c1 := fun x : BW wr => x.cell ((hb.cell hlb).trans c1)
      replace c2 := fun x : BW wr => x.cell ((hb.cell hlb).trans c2)
      clear c0
      cases hp : onB day L[k]
      all_goals
        have HQ := Lib.hid hp
        go_wp2
        refine wp_region_bw (by kernel_rfl) (by kernel_rfl) ?_
        repeat (go_big_quiet_step ((go_at_call 41; exact bw_same _ (calls_b HQ.out (l01In_any _ _ _ _)))))
        refine wpQuiet_nil ?_
        intro wq hx
        have hq := bw_out hx
        clear hx c1 c2
        go_wp2
      · go_roundw
        case rel => exact ⟨k + 1, by omega, by go_num, take_step _ L hlt HP.out HQ.out, hb.trans (hq.mono hb.size)⟩
        case measure => simp [intOf]; omega
      · go_ret
        exact ⟨ret_i (idx_hit _ L hlt HP.out HQ.out).symm, hb.trans (hq.mono hb.size)⟩
    · go_wp2
      go_ret
      refine ⟨ret_i (idx_none _ L ?_).symm, hb⟩
      have := HP.out
      rwa [List.take_of_length_le (by omega)] at this

end Go.Proofs.Ytecdneaheeepdaa
