/- The plain law of ReadVar: which beginning of a text is the Var of a number. No program in sight. -/
import Derived.Test.YthganncfagddgaaDoorVar
namespace Go.Proofs.YthganncfagddgaaDoor
set_option linter.unusedSimpArgs false
set_option linter.unusedVariables false
open Go.RowKit

def valL : List UInt8 → Nat
  | [] => 0
  | b :: l => b.toNat % 128 + 128 * valL l
theorem valL_lt : ∀ l : List UInt8, valL l < 128 ^ l.length
  | [] => by simp [valL]
  | b :: l => by
    have := valL_lt l
    simp only [valL, List.length_cons, Nat.pow_succ]
    omega
theorem valL_snoc : ∀ (l : List UInt8) (c : UInt8), valL (l ++ [c]) = valL l + (c.toNat % 128) * 128 ^ l.length
  | [], c => by simp [valL]
  | b :: l, c => by
    simp only [List.cons_append, valL, valL_snoc l c, List.length_cons, Nat.pow_succ]
    rw [Nat.mul_add, ← Nat.add_assoc]
    congr 1
    rw [Nat.mul_left_comm, Nat.mul_comm 128]
/-- written as Var writes: all but the last go on, the last ends, and is not nought unless it stands alone -/
def canon : List UInt8 → Bool
  | [] => false
  | [b] => decide (b.toNat < 128)
  | b :: c :: l => decide (128 ≤ b.toNat) && canon (c :: l) && !decide (c = 0 ∧ l = [])
theorem canon_cons {b : UInt8} {l : List UInt8} (h : l ≠ []) : canon (b :: l) = (decide (128 ≤ b.toNat) && canon l && !decide (l = [0])) := by
  cases l with
  | nil => exact absurd rfl h
  | cons c l => simp [canon]
theorem varL_valL : ∀ l : List UInt8, canon l = true → varL (valL l) = l
  | [], h => by simp [canon] at h
  | [b], h => by
    have hb : b.toNat < 128 := by simpa [canon] using h
    have e : valL [b] = b.toNat := by simp [valL]; omega
    rw [e, varL_end hb]; simp
  | b :: c :: l, h => by
    simp only [canon, Bool.and_eq_true, decide_eq_true_eq, Bool.not_eq_true', decide_eq_false_iff_not] at h
    obtain ⟨⟨hb, hc⟩, hn⟩ := h
    have ih := varL_valL (c :: l) hc
    have hb2 := b.toNat_lt
    have e : valL (b :: c :: l) = b.toNat % 128 + 128 * valL (c :: l) := rfl
    have hv : 0 < valL (c :: l) := by
      rcases Nat.eq_zero_or_pos (valL (c :: l)) with h0 | h0
      · rw [h0, varL_end (by omega)] at ih
        exfalso; apply hn
        simp at ih
        exact ⟨ih.1.symm, ih.2⟩
      · exact h0
    rw [e, varL_more (by omega), show (b.toNat % 128 + 128 * valL (c :: l)) / 128 = valL (c :: l) by omega, ih]
    congr 1
    rw [show 128 + (b.toNat % 128 + 128 * valL (c :: l)) % 128 = b.toNat by omega]
    simp
theorem canon_varL (n : Nat) : canon (varL n) = true := by
  induction n using Nat.strongRecOn with
  | ind n ih =>
    by_cases h : n < 128
    · rw [varL_end h]; simp [canon]; omega
    · rw [varL_more h]
      have h1 := ih (n / 128) (by omega)
      have hne : varL (n / 128) ≠ [] := fun e => by have := varL_pos (n / 128); rw [e] at this; simp at this
      rw [canon_cons hne, h1]
      have h2 : varL (n / 128) ≠ [0] := by
        intro e
        by_cases h3 : n / 128 < 128
        · rw [varL_end h3] at e
          have h4 : (UInt8.ofNat (n / 128)).toNat = (0 : UInt8).toNat := by rw [List.head_eq_of_cons_eq e]
          simp at h4; omega
        · rw [varL_more h3] at e
          have h5 := (List.cons.inj e).2
          have := varL_pos (n / 128 / 128)
          rw [h5] at this
          simp at this
      simp [h2]; omega
theorem canon_iff (l : List UInt8) : varL (valL l) = l ↔ canon l = true :=
  ⟨fun h => h ▸ canon_varL _, varL_valL l⟩
theorem canon_spec : ∀ (l : List UInt8), canon l = true ↔ (∃ c, l.getLast? = some c ∧ c.toNat < 128 ∧ (1 < l.length → c ≠ 0)) ∧ ∀ i, i + 1 < l.length → 128 ≤ (l.getD i 0).toNat
  | [] => by simp [canon]
  | [b] => by simp [canon]
  | b :: c :: l => by
    rw [canon_cons (by simp)]
    simp only [Bool.and_eq_true, decide_eq_true_eq, Bool.not_eq_true', decide_eq_false_iff_not, canon_spec (c :: l)]
    constructor
    · rintro ⟨⟨hb, ⟨d, h1, h2, h3⟩, h4⟩, h5⟩
      refine ⟨⟨d, by simpa using h1, h2, fun _ hd => ?_⟩, fun i hi => ?_⟩
      · subst hd
        by_cases hl : 1 < (c :: l).length
        · exact h3 hl rfl
        · obtain rfl : l = [] := by cases l with | nil => rfl | cons => simp at hl
          apply h5; simp at h1; rw [h1]
      · cases i with
        | zero => simpa using hb
        | succ i => simpa using h4 i (by simpa using hi)
    · rintro ⟨⟨d, h1, h2, h3⟩, h4⟩
      refine ⟨⟨by simpa using h4 0 (by simp), ⟨d, by simpa using h1, h2, fun _ => h3 (by simp)⟩, fun i hi => by simpa using h4 (i + 1) (by simpa using hi)⟩, ?_⟩
      intro e
      rw [e] at h1
      exact h3 (by simp) (by simpa using h1.symm)
/-- what ReadVar answers: what of the bytes makes a number, and how many they are -/
def rdVar (l : List UInt8) : Nat → Nat → Nat × Nat
  | 0, _ => (0, 0)
  | f + 1, i => match l[i]? with
    | none => (0, 0)
    | some c => if 128 ≤ c.toNat then rdVar l f (i + 1) else if 0 < i ∧ c = 0 then (0, 0) else (valL (l.take (i + 1)), i + 1)
theorem take_canon {l : List UInt8} {i : Nat} {c : UInt8} (hc : l[i]? = some c) (h : ∀ j, j < i → 128 ≤ (l.getD j 0).toNat) : canon (l.take (i + 1)) = decide (c.toNat < 128 ∧ (0 < i → c ≠ 0)) := by
  rw [Bool.eq_iff_iff, canon_spec]
  have hi : i < l.length := (List.getElem?_eq_some_iff.1 hc).1
  have hl : (l.take (i + 1)).length = i + 1 := by simp; omega
  have hlast : (l.take (i + 1)).getLast? = some c := by
    rw [List.getLast?_eq_getElem?, hl, List.getElem?_take_of_lt (by omega)]; exact hc
  rw [hlast, hl]
  constructor
  · rintro ⟨⟨d, h1, h2, h3⟩, _⟩
    cases h1
    exact decide_eq_true ⟨h2, fun h0 => h3 (by omega)⟩
  · intro hh
    simp only [decide_eq_true_eq] at hh
    refine ⟨⟨c, rfl, hh.1, fun h1 => hh.2 (by omega)⟩, fun j hj => ?_⟩
    have := h j (by omega)
    rwa [List.getD_eq_getElem?_getD, List.getElem?_take_of_lt (by omega), ← List.getD_eq_getElem?_getD]
theorem rd_scan {l : List UInt8} : ∀ (f i : Nat), (∀ j, j < i → 128 ≤ (l.getD j 0).toNat) →
    (∀ k, i < k → k ≤ i + f → k ≤ l.length → canon (l.take k) = true → rdVar l f i = (valL (l.take k), k)) ∧
    ((∀ k, i < k → k ≤ i + f → k ≤ l.length → canon (l.take k) = false) → rdVar l f i = (0, 0))
  | 0, i, _ => ⟨fun k h1 h2 => by omega, fun _ => rfl⟩
  | f + 1, i, h => by
    cases hc : l[i]? with
    | none =>
      have hi : l.length ≤ i := by simpa using hc
      refine ⟨fun k h1 h2 h3 => by omega, fun _ => by simp [rdVar, hc]⟩
    | some c =>
      have hi : i < l.length := (List.getElem?_eq_some_iff.1 hc).1
      have ht := take_canon hc h
      by_cases hb : 128 ≤ c.toNat
      · have ih := rd_scan f (i + 1) (fun j hj => by
          by_cases hji : j = i
          · subst hji; rw [List.getD_eq_getElem?_getD, hc]; exact hb
          · exact h j (by omega))
        have hn : canon (l.take (i + 1)) = false := by rw [ht]; simp; omega
        have e : rdVar l (f + 1) i = rdVar l f (i + 1) := by simp [rdVar, hc, hb]
        rw [e]
        refine ⟨fun k h1 h2 h3 h4 => ?_, fun hk => ih.2 fun k h1 h2 h3 => hk k (by omega) (by omega) h3⟩
        by_cases hk : k = i + 1
        · subst hk; rw [hn] at h4; cases h4
        · exact ih.1 k (by omega) (by omega) h3 h4
      · by_cases h0 : 0 < i ∧ c = 0
        · have e : rdVar l (f + 1) i = (0, 0) := by simp [rdVar, hc, hb, h0.1, h0.2]
          rw [e]
          refine ⟨fun k h1 h2 h3 h4 => ?_, fun _ => rfl⟩
          exfalso
          by_cases hk : k = i + 1
          · subst hk; rw [ht] at h4; simp [h0.1, h0.2] at h4
          · have h5 := (canon_spec (l.take k)).1 h4
            have h6 := h5.2 i (by simp; omega)
            rw [List.getD_eq_getElem?_getD, List.getElem?_take_of_lt (by omega), hc] at h6
            exact hb h6
        · have e : rdVar l (f + 1) i = (valL (l.take (i + 1)), i + 1) := by
            simp only [rdVar, hc]; rw [if_neg hb, if_neg h0]
          have hy : canon (l.take (i + 1)) = true := by
            rw [ht]; simp only [decide_eq_true_eq]; exact ⟨by omega, fun h1 h2 => h0 ⟨h1, h2⟩⟩
          rw [e]
          refine ⟨fun k h1 h2 h3 h4 => ?_, fun hk => ?_⟩
          · by_cases hk : k = i + 1
            · subst hk; rfl
            · exfalso
              have h5 := (canon_spec (l.take k)).1 h4
              have h6 := h5.2 i (by simp; omega)
              rw [List.getD_eq_getElem?_getD, List.getElem?_take_of_lt (by omega), hc] at h6
              exact hb h6
          · have := hk (i + 1) (by omega) (by omega) (by omega)
            rw [hy] at this; cases this

end Go.Proofs.YthganncfagddgaaDoor
