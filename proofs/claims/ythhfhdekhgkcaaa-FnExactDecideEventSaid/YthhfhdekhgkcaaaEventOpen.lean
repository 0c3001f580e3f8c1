/-
  Events among a law's arguments: a slice of them and one by value, opened.
-/
import Derived.Test.YthhfhdekhgkcaaaEvent
import Derived.Test.YthhfhdekhgkcaaaOpen
namespace Go.Proofs.Ythhfhdekhgkcaaa
open Go.RowKit Go.ChangeShapes Go.WideShapes Go.Deep

set_option maxRecDepth 100000 in
theorem Event.open_slice {H : Type} {enc : TypeId × Value → H} {w : World} {fuel : Nat} {A : Option Addr} {len cap : Nat} {x : DataW H × List MemPlace}
    (h : DataW.trod enc Try.prog w 0 (fun _ => true) true fuel 60 [.slice A len cap] = some x) :
    ∃ L : List Event, L.length = len ∧ Event.At w A L ∧ (∀ s ∈ L, s.small) ∧ L.length ≤ 9223372036854775807 := by
  rcases open_slice_fields Try.underlying60 Try.underlying30 (by kernel_rfl) (by kernel_rfl) h with ⟨hcs, _⟩ | ⟨a, l, c, m, D, Pl, hcs, _, hl, hm, hmm, _, hf⟩
  · simp at hcs
    obtain ⟨rfl, rfl, rfl⟩ := hcs
    exact ⟨[], rfl, Reads.none_, by simp, by simp⟩
  · simp at hcs
    obtain ⟨rfl, rfl, rfl⟩ := hcs
    simp at hmm
    subst hmm
    have hall : ∀ i, i < len → ∃ s : Event, s.small ∧ ∀ j u, s.cells[j]? = some u → w.cell? (a.add (i * 7 + j)) = some u := by
      intro i hi
      obtain ⟨ys, n, _, _, _, hj⟩ := hf i (by omega)
      obtain ⟨v0, y0, c0, _, t0⟩ := hj 0 _ rfl
      obtain ⟨x0, e0, _, _⟩ := DataW.trod_int Try.underlying2 t0
      obtain rfl : v0 = _ := by injection e0
      obtain ⟨v1, y1, c1, _, t1⟩ := hj 1 _ rfl
      obtain ⟨x1, e1, _, _⟩ := DataW.trod_int Try.underlying2 t1
      obtain rfl : v1 = _ := by injection e1
      obtain ⟨v2, y2, c2, _, t2⟩ := hj 2 _ rfl
      obtain ⟨x2, e2, _, z2⟩ := DataW.trod_string Try.underlying9 t2
      obtain rfl : v2 = _ := by injection e2
      obtain ⟨v3, y3, c3, _, t3⟩ := hj 3 _ rfl
      obtain ⟨x3, e3, _, _⟩ := DataW.trod_int Try.underlying2 t3
      obtain rfl : v3 = _ := by injection e3
      obtain ⟨v4, y4, c4, _, t4⟩ := hj 4 _ rfl
      obtain ⟨x4, e4, _⟩ := DataW.trod_bool Try.underlying4 t4
      obtain rfl : v4 = _ := by injection e4
      obtain ⟨v5, y5, c5, _, t5⟩ := hj 5 _ rfl
      obtain ⟨x5, e5, _⟩ := DataW.trod_bool Try.underlying4 t5
      obtain rfl : v5 = _ := by injection e5
      obtain ⟨v6, y6, c6, _, t6⟩ := hj 6 _ rfl
      obtain ⟨x6, e6, _⟩ := DataW.trod_bool Try.underlying4 t6
      obtain rfl : v6 = _ := by injection e6
      refine ⟨⟨x0, x1, x2, x3, x4, x5, x6⟩, by unfold maxLen at z2; exact z2, fun j u hu => ?_⟩
      match j, hu with
      | 0, hu => simp [Event.cells] at hu; subst hu; exact c0
      | 1, hu => simp [Event.cells] at hu; subst hu; exact c1
      | 2, hu => simp [Event.cells] at hu; subst hu; exact c2
      | 3, hu => simp [Event.cells] at hu; subst hu; exact c3
      | 4, hu => simp [Event.cells] at hu; subst hu; exact c4
      | 5, hu => simp [Event.cells] at hu; subst hu; exact c5
      | 6, hu => simp [Event.cells] at hu; subst hu; exact c6
      | j + 7, hu => simp [Event.cells] at hu
    have : Inhabited Event := ⟨Event.zero⟩
    obtain ⟨S, hS⟩ := choose_lt hall
    refine ⟨(List.range len).map S, by simp, ?_, ?_, by simp; unfold maxLen at hm; omega⟩
    · refine ⟨flat_len _ _ Event.len _, fun hn => ?_⟩
      simp at hn
      have h0 := (hS 0 (by omega)).2 0 _ rfl
      obtain ⟨b, off, spot⟩ := a
      have hspot : spot = none := by simpa [Addr.add] using World.cell?_spot h0
      subst hspot
      refine ⟨b, off, rfl, World.block_lt_of_cell? w _ h0, fun j u hu => ?_⟩
      have hjl : j < len * 7 := by
        have := (List.getElem?_eq_some_iff.1 hu).1
        rwa [Event.flat, flat_len _ _ Event.len, List.length_map, List.length_range] at this
      have e : j = j / 7 * 7 + j % 7 := by omega
      have g := flat_get Event.cells 7 Event.len ((List.range len).map S) (j / 7) (j % 7) (by simp; omega) (by omega)
      rw [← e] at g
      rw [Event.flat, g] at hu
      simp only [List.getElem_map, List.getElem_range] at hu
      have := (hS (j / 7) (by omega)).2 (j % 7) u hu
      rw [← e, Go.WideShapes.add_plain] at this
      exact this
    · intro s hs
      simp at hs
      obtain ⟨i, hi, rfl⟩ := hs
      exact (hS i hi).1

set_option maxRecDepth 100000 in
theorem Event.open_val {H : Type} {enc : TypeId × Value → H} {w : World} {r : Reach} {b0 : Nat} {v : Value} {d : DataW H} {p : List MemPlace}
    (hv : Value.okWide Try.prog w r b0 30 v) (h : DataW.Trod enc Try.prog w 0 (fun _ => true) true 30 v d p) : ∃ s : Event, v = s.val ∧ s.small := by
  obtain ⟨cs, rfl, hsz⟩ := okWide_struct Try.underlying30 hv
  obtain ⟨l⟩ := cs
  have hC : Try.prog.cellsOf 30 = 7 := by kernel_rfl
  match l, hsz.trans hC with
  | [c0, c1, c2, c3, c4, c5, c6], _ =>
    obtain ⟨fuel, hf⟩ := h
    obtain ⟨xs, n, _, _, _, hlen, hg⟩ := DataW.trod_struct Try.underlying30 hf
    have hone : oneCellFields Try.prog _ = true := (by kernel_rfl : oneCellFields Try.prog (match Try.prog.underlying 30 with | some (.struct fs) => fs | _ => #[]) = true)
    match xs, hlen with
    | [y0, y1, y2, y3, y4, y5, y6], _ =>
      obtain ⟨o0, _⟩ := hone_of (P := Try.prog) hone 0 _ rfl
      have t0 : DataW.trod enc Try.prog w 0 (fun _ => true) true n 2 [c0] = some y0 := by simpa [Value.cells, o0, cells_int64] using hg 0 _ rfl
      obtain ⟨x0, e0, _, _⟩ := DataW.trod_int Try.underlying2 t0
      obtain rfl : c0 = _ := by injection e0
      obtain ⟨o1, _⟩ := hone_of (P := Try.prog) hone 1 _ rfl
      have t1 : DataW.trod enc Try.prog w 0 (fun _ => true) true n 2 [c1] = some y1 := by simpa [Value.cells, o1, cells_int64] using hg 1 _ rfl
      obtain ⟨x1, e1, _, _⟩ := DataW.trod_int Try.underlying2 t1
      obtain rfl : c1 = _ := by injection e1
      obtain ⟨o2, _⟩ := hone_of (P := Try.prog) hone 2 _ rfl
      have t2 : DataW.trod enc Try.prog w 0 (fun _ => true) true n 9 [c2] = some y2 := by simpa [Value.cells, o2, cells_string] using hg 2 _ rfl
      obtain ⟨x2, e2, _, z2⟩ := DataW.trod_string Try.underlying9 t2
      obtain rfl : c2 = _ := by injection e2
      obtain ⟨o3, _⟩ := hone_of (P := Try.prog) hone 3 _ rfl
      have t3 : DataW.trod enc Try.prog w 0 (fun _ => true) true n 2 [c3] = some y3 := by simpa [Value.cells, o3, cells_int64] using hg 3 _ rfl
      obtain ⟨x3, e3, _, _⟩ := DataW.trod_int Try.underlying2 t3
      obtain rfl : c3 = _ := by injection e3
      obtain ⟨o4, _⟩ := hone_of (P := Try.prog) hone 4 _ rfl
      have t4 : DataW.trod enc Try.prog w 0 (fun _ => true) true n 4 [c4] = some y4 := by simpa [Value.cells, o4, cells_bool] using hg 4 _ rfl
      obtain ⟨x4, e4, _⟩ := DataW.trod_bool Try.underlying4 t4
      obtain rfl : c4 = _ := by injection e4
      obtain ⟨o5, _⟩ := hone_of (P := Try.prog) hone 5 _ rfl
      have t5 : DataW.trod enc Try.prog w 0 (fun _ => true) true n 4 [c5] = some y5 := by simpa [Value.cells, o5, cells_bool] using hg 5 _ rfl
      obtain ⟨x5, e5, _⟩ := DataW.trod_bool Try.underlying4 t5
      obtain rfl : c5 = _ := by injection e5
      obtain ⟨o6, _⟩ := hone_of (P := Try.prog) hone 6 _ rfl
      have t6 : DataW.trod enc Try.prog w 0 (fun _ => true) true n 4 [c6] = some y6 := by simpa [Value.cells, o6, cells_bool] using hg 6 _ rfl
      obtain ⟨x6, e6, _⟩ := DataW.trod_bool Try.underlying4 t6
      obtain rfl : c6 = _ := by injection e6
      exact ⟨⟨x0, x1, x2, x3, x4, x5, x6⟩, rfl, by unfold maxLen at z2; exact z2⟩
end Go.Proofs.Ythhfhdekhgkcaaa
