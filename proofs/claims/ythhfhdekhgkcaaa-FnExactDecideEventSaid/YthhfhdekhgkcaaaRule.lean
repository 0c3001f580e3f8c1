/-
  Rulebooks and chains, as plain functions on lists of clauses.
-/
import Derived.Test.YthhfhdekhgkcaaaMatches
namespace Go.Proofs.Ythhfhdekhgkcaaa
open Go.RowKit

def hasCode (code : ByteArray) (c : Clause) : Bool := sEq c.code code
def findC (L : List Clause) (code : ByteArray) : Int := idx (hasCode code) L
def goodAt (L : List Clause) (i : Nat) : Bool := match L[i]? with
  | some c => (findC L c.code == (i : Int)) && (!(c.result == 3) || decide ((i : Int) < findC L c.to))
  | none => true
def isLast (c : Clause) : Bool := c.kind == -1 && c.peril == 0 && c.voluntary == 0 && c.reasonable == 0 && !(c.result == 3)
def lastOk (L : List Clause) : Bool := match L[L.length - 1]? with
  | some c => isLast c
  | none => false
def isRulebook (L : List Clause) : Bool := inB L.length 1 12 && L.all Clause.okB && (List.range L.length).all (goodAt L) && lastOk L

structure Rule (L : List Clause) : Prop where
  pos : 1 ≤ L.length
  le : L.length ≤ 12
  ok : ∀ c ∈ L, c.okB = true
  find : ∀ i (h : i < L.length), findC L L[i].code = i
  go : ∀ i (h : i < L.length), L[i].result = 3 → (i : Int) < findC L L[i].to
  last : isLast (L[L.length - 1]'(by omega)) = true
theorem rule_of {L : List Clause} (h : isRulebook L = true) : Rule L := by
  simp only [isRulebook, Bool.and_eq_true, inB_iff, List.all_eq_true, List.mem_range] at h
  obtain ⟨⟨⟨⟨h1, h2⟩, h3⟩, h4⟩, h5⟩ := h
  have hp : 1 ≤ L.length := by omega
  refine ⟨hp, by omega, h3, fun i hi => ?_, fun i hi h => ?_, ?_⟩
  · have := h4 i hi
    simp only [goodAt, List.getElem?_eq_getElem hi, Bool.and_eq_true, beq_iff_eq] at this
    exact this.1
  · have := h4 i hi
    simp only [goodAt, List.getElem?_eq_getElem hi, Bool.and_eq_true, beq_iff_eq, h, Bool.or_eq_true, decide_eq_true_eq] at this
    simpa using this.2
  · simpa only [lastOk, List.getElem?_eq_getElem (show L.length - 1 < L.length by omega)] using h5
theorem good_at {L : List Clause} {k : Nat} (h : k < L.length) : goodAt L k = ((findC L L[k].code == (k : Int)) && (!(L[k].result == 3) || decide ((k : Int) < findC L L[k].to))) := by
  simp only [goodAt, List.getElem?_eq_getElem h]
theorem rb_len {L : List Clause} (h : inB L.length 1 12 = false) : isRulebook L = false := by simp [isRulebook, h]
theorem rb_all {L : List Clause} (h : L.all Clause.okB = false) : isRulebook L = false := by simp [isRulebook, h]
theorem rb_ok {L : List Clause} {k : Nat} (hk : k < L.length) (h : L[k].okB = false) : isRulebook L = false := by
  refine rb_all ?_
  rw [← Bool.not_eq_true, List.all_eq_true]
  exact fun g => by simpa [h] using g _ (List.getElem_mem hk)
theorem rb_good {L : List Clause} {k : Nat} (hk : k < L.length) (h : goodAt L k = false) : isRulebook L = false := by
  have : (List.range L.length).all (goodAt L) = false := by
    rw [← Bool.not_eq_true, List.all_eq_true]
    exact fun g => by simpa [h] using g k (List.mem_range.2 hk)
  simp [isRulebook, this]
theorem rb_end {L : List Clause} (h : inB L.length 1 12 = true) (h1 : L.all Clause.okB = true) (h2 : ∀ i < L.length, goodAt L i = true) : isRulebook L = lastOk L := by
  have : (List.range L.length).all (goodAt L) = true := List.all_eq_true.2 fun i hi => h2 i (List.mem_range.1 hi)
  simp [isRulebook, h, h1, this]
theorem last_at {L : List Clause} (h : 0 < L.length) : lastOk L = isLast (L[L.length - 1]'(by omega)) := by
  simp only [lastOk, List.getElem?_eq_getElem (show L.length - 1 < L.length by omega)]

/-! ### The first clause from an index on that matches -/
def firstN (L : List Clause) (e : Event) (k : Nat) : Nat := k + (L.drop k).findIdx (fun c => matches_ c e)
theorem first_ge (L : List Clause) (e : Event) (k : Nat) : k ≤ firstN L e k := by unfold firstN; omega
section
variable {L : List Clause} (R : Rule L) (e : Event)
include R
theorem last_matches : matches_ (L[L.length - 1]'(by have := R.pos; omega)) e = true := by
  have := R.last
  simp only [isLast, Bool.and_eq_true, beq_iff_eq] at this
  simp [matches_, met, this]
theorem first_ex {k : Nat} (hk : k < L.length) : (L.drop k).findIdx (fun c => matches_ c e) < L.length - k := by
  have hp := R.pos
  have := List.findIdx_lt_length_of_exists (xs := L.drop k) (p := fun c => matches_ c e) ⟨L[L.length - 1]'(by omega), ?_, last_matches R e⟩
  · simpa using this
  · rw [List.mem_drop_iff_getElem]
    exact ⟨L.length - 1 - k, by omega, by congr 1; omega⟩
theorem first_lt {k : Nat} (hk : k < L.length) : firstN L e k < L.length := by have := first_ex R e hk; unfold firstN; omega
theorem first_match {k : Nat} (hk : k < L.length) : matches_ (L[firstN L e k]'(first_lt R e hk)) e = true := by
  have h := first_ex R e hk
  have := List.findIdx_getElem (xs := L.drop k) (p := fun c => matches_ c e) (w := by simpa using h)
  simpa [firstN] using this
theorem first_idx {k : Nat} (hk : k < L.length) : idx (fun c => matches_ c e) (L.drop k) = (firstN L e k : Int) - k := by
  have h := first_ex R e hk
  have h2 : (L.drop k).findIdx? (fun c => matches_ c e) = some ((L.drop k).findIdx (fun c => matches_ c e)) := by
    rw [List.findIdx?_eq_some_iff_findIdx_eq]
    exact ⟨by simpa using h, rfl⟩
  rw [idx, h2]
  simp only [firstN]
  omega
end
theorem first_hit {L : List Clause} {e : Event} {k j : Nat} (h1 : k ≤ j) (hj : j < L.length) (hno : ∀ i (hi : i < L.length), k ≤ i → i < j → matches_ L[i] e = false) (h : matches_ L[j] e = true) : firstN L e k = j := by
  have : (L.drop k).findIdx (fun c => matches_ c e) = j - k := by
    rw [List.findIdx_eq (by simp; omega)]
    refine ⟨by simpa [show k + (j - k) = j from by omega] using h, fun i hi => ?_⟩
    simpa using hno (k + i) (by omega) (by omega) (by omega)
  unfold firstN; omega

/-! ### Chains -/
def findN (L : List Clause) (code : ByteArray) : Nat := (findC L code).toNat
def resAt (L : List Clause) (i : Nat) : Int := match L[i]? with | some c => c.result | none => 0
def codeAt (L : List Clause) (i : Nat) : ByteArray := match L[i]? with | some c => c.code | none => ⟨#[]⟩
def toAt (L : List Clause) (i : Nat) : ByteArray := match L[i]? with | some c => c.to | none => ⟨#[]⟩
theorem resAt_eq {L : List Clause} {i : Nat} (h : i < L.length) : resAt L i = L[i].result := by simp [resAt, h]
theorem codeAt_eq {L : List Clause} {i : Nat} (h : i < L.length) : codeAt L i = L[i].code := by simp [codeAt, h]
theorem toAt_eq {L : List Clause} {i : Nat} (h : i < L.length) : toAt L i = L[i].to := by simp [toAt, h]
def chainN (L : List Clause) (e : Event) : Nat → Nat → List Nat
  | 0, _ => []
  | n + 1, k => firstN L e k :: (if resAt L (firstN L e k) = 3 then chainN L e n (findN L (toAt L (firstN L e k))) else [])
def chain (L : List Clause) (e : Event) : List Nat := chainN L e L.length 0
def chainCodes (L : List Clause) (e : Event) : List ByteArray := (chain L e).map (codeAt L)
def chainRes (L : List Clause) (e : Event) : Int := resAt L ((chain L e).getLast?.getD 0)
theorem chainN_len (L : List Clause) (e : Event) : ∀ (n k : Nat), (chainN L e n k).length ≤ n
  | 0, k => by simp [chainN]
  | n + 1, k => by
    rw [chainN]
    split
    · simpa using chainN_len L e n _
    · simp
section
variable {L : List Clause} (R : Rule L) (e : Event)
include R
theorem find_go {i : Nat} (h : i < L.length) (h3 : L[i].result = 3) : findC L L[i].to = (findN L L[i].to : Int) ∧ i < findN L L[i].to ∧ findN L L[i].to < L.length := by
  have := R.go i h h3
  have h2 := idx_bd (hasCode L[i].to) L
  unfold findN
  simp only [findC] at this ⊢
  omega
theorem chain_end {n k : Nat} (hk : k < L.length) (h : (L[firstN L e k]'(first_lt R e hk)).result ≠ 3) : chainN L e (n + 1) k = [firstN L e k] := by
  rw [chainN, resAt_eq (first_lt R e hk), if_neg h]
theorem chain_go {n k : Nat} (hk : k < L.length) (h : (L[firstN L e k]'(first_lt R e hk)).result = 3) : chainN L e (n + 1) k = firstN L e k :: chainN L e n (findN L (L[firstN L e k]'(first_lt R e hk)).to) := by
  rw [chainN, resAt_eq (first_lt R e hk), if_pos h, toAt_eq (first_lt R e hk)]
theorem chainN_mem : ∀ (n k : Nat), k < L.length → ∀ i ∈ chainN L e n k, k ≤ i ∧ i < L.length
  | 0, k, hk, i, hi => by simp [chainN] at hi
  | n + 1, k, hk, i, hi => by
    have hf := first_lt R e hk
    have hg := first_ge L e k
    by_cases h : L[firstN L e k].result = 3
    · rw [chain_go R e hk h, List.mem_cons] at hi
      obtain ⟨_, h2, h3⟩ := find_go R hf h
      rcases hi with rfl | hi
      · omega
      · have := chainN_mem n _ h3 i hi
        omega
    · rw [chain_end R e hk h, List.mem_singleton] at hi
      omega
theorem chain_mem : ∀ i ∈ chain L e, i < L.length := fun i hi => (chainN_mem R e _ 0 (by have := R.pos; omega) i hi).2
theorem chain_pos : 0 < (chain L e).length := by
  have := R.pos
  obtain ⟨n, h⟩ : ∃ n, L.length = n + 1 := ⟨L.length - 1, by omega⟩
  rw [chain, h, chainN]
  simp
theorem chain_len : (chain L e).length ≤ 12 := Nat.le_trans (chainN_len L e _ _) R.le
end
end Go.Proofs.Ythhfhdekhgkcaaa
