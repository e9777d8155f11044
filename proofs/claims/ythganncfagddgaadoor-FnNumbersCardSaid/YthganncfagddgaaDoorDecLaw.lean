/- Decimal numerals: the plain law: what is made of a number is read as it; the two readings of a text agree. No program in sight. -/
import Derived.Test.YthganncfagddgaaDoorBase
import Derived.Lib.AtoiTie
import Derived.Lib.ItoaMem
namespace Go.Proofs.YthganncfagddgaaDoor
set_option linter.unusedSimpArgs false
set_option linter.unusedVariables false
open Go.RowKit

theorem digVal_of (k : Nat) (h : k < 10) : Lib.digitVal (UInt8.ofNat (48 + k)) = some k := by
  have e : (UInt8.ofNat (48 + k)).toNat = 48 + k := by simp; omega
  unfold Lib.digitVal
  rw [e, if_pos (by omega)]
  congr 1; omega
theorem decFrom_snoc : ∀ (l : List UInt8) (acc n : Nat) (b : UInt8) (d : Nat), Lib.decFrom acc l = some n → Lib.digitVal b = some d → Lib.decFrom acc (l ++ [b]) = some (n * 10 + d)
  | [], acc, n, b, d, h, hd => by
    simp only [Lib.decFrom, Option.some.injEq] at h
    subst h
    simp [Lib.decFrom, hd]
  | c :: l, acc, n, b, d, h, hd => by
    simp only [Lib.decFrom, List.cons_append] at h ⊢
    cases hc : Lib.digitVal c with
    | none => rw [hc] at h; cases h
    | some e =>
      rw [hc] at h
      exact decFrom_snoc l _ n b d h hd
theorem decFrom_digits (u : Nat) : Lib.decFrom 0 (Lib.decDigits u) = some u := by
  induction u using Nat.strongRecOn with
  | _ u ih =>
    by_cases h : u < 10
    · rw [Lib.decDigits, dif_pos h]
      show Lib.decFrom 0 [UInt8.ofNat (48 + u)] = some u
      rw [Lib.decFrom, digVal_of u h]
      simp [Lib.decFrom]
    · rw [Lib.decDigits, dif_neg h, decFrom_snoc _ _ _ _ _ (ih (u / 10) (by omega)) (digVal_of (u % 10) (by omega))]
      congr 1; omega
theorem decDigits_ne (u : Nat) : Lib.decDigits u ≠ [] := by
  intro h
  have := Lib.decDigits_length u
  rw [h] at this
  have := Lib.nDigits_pos u
  simp at *; omega
theorem decDigits_dig (u : Nat) : ∀ b ∈ Lib.decDigits u, 48 ≤ b.toNat ∧ b.toNat ≤ 57 := by
  intro b hb
  obtain ⟨k, hk⟩ := List.getElem?_of_mem hb
  obtain ⟨d, hd⟩ := Lib.digit_of_decFrom _ _ _ (decFrom_digits u) k b hk
  have := Lib.digitVal_eq hd
  exact ⟨this.1, this.2.1⟩
theorem decNat_digits (u : Nat) : Lib.decNat (Lib.decDigits u) = some u := by
  unfold Lib.decNat
  rw [if_neg (by simpa using decDigits_ne u)]
  exact decFrom_digits u
theorem decDigits_cons (u : Nat) : ∃ b r, Lib.decDigits u = b :: r ∧ 48 ≤ b.toNat ∧ b.toNat ≤ 57 := by
  cases h : Lib.decDigits u with
  | nil => exact absurd h (decDigits_ne u)
  | cons b r => exact ⟨b, r, rfl, decDigits_dig u b (by rw [h]; simp)⟩
theorem atoi_itoa (m : Int) : Lib.atoi (Lib.itoa m) = some m := by
  unfold Lib.itoa
  by_cases h : m < 0
  · rw [if_pos h]
    simp only [Lib.atoi]
    rw [if_pos (by decide), decNat_digits]
    simp only [Option.map_some, Option.some.injEq]
    omega
  · rw [if_neg h]
    obtain ⟨b, r, hb, h1, h2⟩ := decDigits_cons m.toNat
    have e := decNat_digits m.toNat
    rw [hb] at e ⊢
    simp only [Lib.atoi]
    have n1 : (b == 45) = false := by
      cases hq : b == 45
      · rfl
      · rw [eq_of_beq hq] at h1; revert h1; decide
    have n2 : (b == 43) = false := by
      cases hq : b == 43
      · rfl
      · rw [eq_of_beq hq] at h1; revert h1; decide
    rw [n1, n2, e]
    simp only [Bool.false_eq_true, if_false, Option.map_some, Option.some.injEq]
    omega
theorem itoa_inj {a b : Int} (h : Lib.itoa a = Lib.itoa b) : a = b := by
  have := atoi_itoa a
  rw [h, atoi_itoa] at this
  exact (Option.some.inj this).symm
theorem nDigits_le {u k : Nat} (h : u < 10 ^ (k + 1)) : Lib.nDigits u ≤ k + 1 := by
  induction k generalizing u with
  | zero => rw [Lib.nDigits_small (by simpa using h)]; exact Nat.le_refl _
  | succ k ih =>
    by_cases h1 : u < 10
    · rw [Lib.nDigits_small h1]; omega
    · rw [Lib.nDigits_big h1]
      have := ih (u := u / 10) (by rw [Nat.pow_succ] at h; omega)
      omega
/-- what is a number of at most nine figures -/
def nine (m : Int) : Bool := decide (-999999999 ≤ m) && decide (m ≤ 999999999)
theorem nine_iff {m : Int} : nine m = true ↔ -999999999 ≤ m ∧ m ≤ 999999999 := by simp [nine]
theorem itoa_len9 {m : Int} (h : nine m = true) : (Lib.itoa m).length ≤ 10 := by
  have h := nine_iff.1 h
  unfold Lib.itoa
  split
  · rw [List.length_cons, Lib.decDigits_length]
    have := nDigits_le (u := m.natAbs) (k := 8) (by have : (10 : Nat) ^ 9 = 1000000000 := rfl; omega)
    omega
  · rw [Lib.decDigits_length]
    have := nDigits_le (u := m.toNat) (k := 8) (by have : (10 : Nat) ^ 9 = 1000000000 := rfl; omega)
    omega
open Classical in
/-- the number that a text is made of, if it has at most nine figures -/
noncomputable def rdDec (l : List UInt8) : Int × Bool := if h : ∃ m, nine m = true ∧ Lib.itoa m = l then (Classical.choose h, true) else (0, false)
theorem rdDec_yes {m : Int} (h : nine m = true) : rdDec (Lib.itoa m) = (m, true) := by
  have hx : ∃ m', nine m' = true ∧ Lib.itoa m' = Lib.itoa m := ⟨m, h, rfl⟩
  unfold rdDec
  rw [dif_pos hx, itoa_inj (Classical.choose_spec hx).2]
theorem rdDec_no {l : List UInt8} (h : ∀ m, nine m = true → Lib.itoa m ≠ l) : rdDec l = (0, false) := by
  unfold rdDec
  rw [dif_neg (fun ⟨m, h1, h2⟩ => h m h1 h2)]
/-- the program's reading -/
def rdI (l : List UInt8) : Int × Bool := match Lib.atoiAll l with | .ok v => if nine v && decide (Lib.itoa v = l) then (v, true) else (0, false) | _ => (0, false)
theorem atoiAll_itoa {m : Int} (h : nine m = true) : Lib.atoiAll (Lib.itoa m) = .ok m := by
  rw [Lib.atoiAll_short _ (by have := itoa_len9 h; omega), atoi_itoa]; rfl
theorem rdI_eq (l : List UInt8) : rdI l = rdDec l := by
  by_cases h : ∃ m, nine m = true ∧ Lib.itoa m = l
  · obtain ⟨m, h1, rfl⟩ := h
    rw [rdDec_yes h1]
    unfold rdI
    rw [atoiAll_itoa h1]
    simp [h1]
  · rw [rdDec_no (fun m h1 h2 => h ⟨m, h1, h2⟩)]
    unfold rdI
    cases ha : Lib.atoiAll l with
    | ok v =>
      simp only
      rw [if_neg]
      intro hv
      simp only [Bool.and_eq_true, decide_eq_true_eq] at hv
      exact h ⟨v, hv⟩
    | _ => rfl
/-- the reference's scan: the number of the figures so far, and how many -/
def scan (s : Nat × Nat) (b : UInt8) : Nat × Nat := if 48 ≤ b.toNat ∧ b.toNat ≤ 57 then (s.1 * 10 + (b.toNat - 48), s.2 + 1) else s
def scanL (l : List UInt8) : Nat × Nat := l.foldl scan (0, 0)
theorem scanL_snoc (l : List UInt8) (b : UInt8) : scanL (l ++ [b]) = scan (scanL l) b := by simp [scanL]
theorem scan_lt : ∀ (l : List UInt8) (s : Nat × Nat), s.1 < 10 ^ s.2 → (l.foldl scan s).1 < 10 ^ (l.foldl scan s).2 ∧ (l.foldl scan s).2 ≤ s.2 + l.length
  | [], s, h => ⟨h, by simp⟩
  | b :: l, s, h => by
    rw [List.foldl_cons]
    have h1 : (scan s b).1 < 10 ^ (scan s b).2 ∧ (scan s b).2 ≤ s.2 + 1 := by
      unfold scan
      split
      · refine ⟨?_, Nat.le_refl _⟩
        simp only [Nat.pow_succ]
        omega
      · exact ⟨h, by omega⟩
    have h2 := scan_lt l _ h1.1
    exact ⟨h2.1, by simp only [List.length_cons]; omega⟩
theorem scanL_lt (l : List UInt8) : (scanL l).1 < 10 ^ (scanL l).2 ∧ (scanL l).2 ≤ l.length := by
  have h := scan_lt l (0, 0) (by decide)
  exact ⟨h.1, by have := h.2; simpa [scanL] using this⟩
theorem scan_digits : ∀ (l : List UInt8) (s : Nat × Nat) (n : Nat), Lib.decFrom s.1 l = some n → l.foldl scan s = (n, s.2 + l.length)
  | [], s, n, h => by
    simp only [Lib.decFrom, Option.some.injEq] at h
    subst h; rfl
  | b :: l, s, n, h => by
    simp only [Lib.decFrom] at h
    cases hb : Lib.digitVal b with
    | none => rw [hb] at h; cases h
    | some d =>
      rw [hb] at h
      obtain ⟨h1, h2, h3⟩ := Lib.digitVal_eq hb
      subst h3
      rw [List.foldl_cons]
      have e : scan s b = (s.1 * 10 + (b.toNat - 48), s.2 + 1) := by unfold scan; rw [if_pos ⟨h1, h2⟩]
      rw [e, scan_digits l _ n h]
      simp; omega
def rdW (l : List UInt8) : Int := if l.head? = some 45 then -((scanL (l.take 11)).1 : Int) else ((scanL (l.take 11)).1 : Int)
/-- the reference's reading -/
def rdS (l : List UInt8) : Int × Bool := if decide (9 < (scanL (l.take 11)).2) || decide (10 < l.length) || !decide (Lib.itoa (rdW l) = l) then (0, false) else (rdW l, true)
theorem rdS_eq (l : List UInt8) : rdS l = rdDec l := by
  by_cases h : ∃ m, nine m = true ∧ Lib.itoa m = l
  · obtain ⟨m, h1, rfl⟩ := h
    rw [rdDec_yes h1]
    have hl := itoa_len9 h1
    have ht : (Lib.itoa m).take 11 = Lib.itoa m := List.take_of_length_le (by omega)
    have hn := nine_iff.1 h1
    have hs : (scanL (Lib.itoa m)).1 = m.natAbs ∧ (scanL (Lib.itoa m)).2 ≤ 9 ∧ ((Lib.itoa m).head? = some 45 ↔ m < 0) := by
      unfold Lib.itoa
      by_cases hm : m < 0
      · rw [if_pos hm]
        have e : scanL (45 :: Lib.decDigits m.natAbs) = (Lib.decDigits m.natAbs).foldl scan (0, 0) := by
          unfold scanL
          rw [List.foldl_cons]
          rfl
        rw [e, scan_digits _ (0, 0) m.natAbs (decFrom_digits _), Lib.decDigits_length]
        have := nDigits_le (u := m.natAbs) (k := 8) (by have : (10 : Nat) ^ 9 = 1000000000 := rfl; omega)
        exact ⟨rfl, by simp; omega, by simp [hm]⟩
      · rw [if_neg hm]
        have e : scanL (Lib.decDigits m.toNat) = (Lib.decDigits m.toNat).foldl scan (0, 0) := rfl
        rw [e, scan_digits _ (0, 0) m.toNat (decFrom_digits _), Lib.decDigits_length]
        have := nDigits_le (u := m.toNat) (k := 8) (by have : (10 : Nat) ^ 9 = 1000000000 := rfl; omega)
        refine ⟨by show m.toNat = m.natAbs; omega, by simp; omega, ?_⟩
        obtain ⟨b, r, hb, h2, h3⟩ := decDigits_cons m.toNat
        rw [hb]
        simp only [List.head?_cons, Option.some.injEq, hm, iff_false]
        rintro rfl
        revert h2; decide
    have hv : rdW (Lib.itoa m) = m := by
      unfold rdW
      rw [ht, hs.1]
      by_cases hm : m < 0
      · rw [if_pos (hs.2.2.2 hm)]; omega
      · rw [if_neg (fun e => hm (hs.2.2.1 e))]; omega
    unfold rdS
    rw [ht, hv, decide_eq_false (by omega), decide_eq_false (by omega)]
    simp
  · rw [rdDec_no (fun m h1 h2 => h ⟨m, h1, h2⟩)]
    unfold rdS
    by_cases hk : 9 < (scanL (l.take 11)).2
    · rw [decide_eq_true hk]; rfl
    · by_cases hi : Lib.itoa (rdW l) = l
      · exfalso
        have hlt := (scanL_lt (l.take 11)).1
        have hp : 10 ^ (scanL (l.take 11)).2 ≤ 10 ^ 9 := Nat.pow_le_pow_right (by decide) (by omega)
        have e9 : (10 : Nat) ^ 9 = 1000000000 := rfl
        refine h ⟨rdW l, nine_iff.2 ?_, hi⟩
        unfold rdW
        split <;> omega
      · rw [decide_eq_false hi]; simp

/-! the reference's making of a text: the last figures first -/
theorem decDigits_step {u : Nat} (h : u ≠ 0) (out : List UInt8) : (if u = 0 then [] else Lib.decDigits u) ++ out = (if u / 10 = 0 then [] else Lib.decDigits (u / 10)) ++ (UInt8.ofNat (48 + u % 10) :: out) := by
  rw [if_neg h]
  by_cases h1 : u < 10
  · rw [Lib.decDigits, dif_pos h1, if_pos (by omega), Nat.mod_eq_of_lt h1]; rfl
  · rw [Lib.decDigits, dif_neg h1, if_neg (by omega)]; simp
end Go.Proofs.YthganncfagddgaaDoor
