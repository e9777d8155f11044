/- Contracts of OwnOk. -/
import Derived.Test.YtkcchceoljlnaaaDoorInts
import Derived.IntWalk
namespace Go.Proofs.YtkcchceoljlnaaaDoor
set_option linter.unusedSimpArgs false
set_option linter.unusedVariables false
open Go.RowKit

theorem quiet_left {P : Program} {f : FuncId} {args : Array Value} {w : World} {n : Nat} {v : Value}
    (h : Calls P f args (w.drewN n) fun e w' => e = .returned v ∧ w.drewN n = w') : Calls P f args (w.drewN n) fun e w' => e = .returned v ∧ ∃ m, w' = w.drewN m :=
  h.mono fun _ _ ⟨he, hm⟩ => ⟨he, n, hm.symm⟩
def okAt (xs : List Int) (i : Nat) : Bool := inB (xs.getD i 0) 0 3 && (i == 0 || decide (xs.getD (i - 1) 0 < xs.getD i 0))
def ownB (xs : List Int) : Bool := (List.range xs.length).all (okAt xs)
theorem ownB_no {xs : List Int} {k : Nat} (hk : k < xs.length) (h : okAt xs k = false) : ownB xs = false := by
  simp only [ownB, List.all_eq_false, List.mem_range]; exact ⟨k, hk, by simp [h]⟩
theorem ownB_yes {xs : List Int} (h : ∀ i, i < xs.length → okAt xs i = true) : ownB xs = true := by
  simp only [ownB, List.all_eq_true, List.mem_range]; exact h
theorem okAt_of {xs : List Int} {k : Nat} {x y : Int} (hx : xs[k]? = some x) (hy : 0 < k → xs[k - 1]? = some y) :
    okAt xs k = (inB x 0 3 && (k == 0 || decide (y < x))) := by
  unfold okAt
  have e : xs.getD k 0 = x := by simp [List.getD, hx]
  rw [e]
  rcases Nat.eq_zero_or_pos k with h0 | h0
  · subst h0; simp
  · have e2 : xs.getD (k - 1) 0 = y := by simp [List.getD, hy h0]
    rw [e2]

/-- what a round of the loop at k < n has at hand -/
theorem own_round {w : World} {A : Option Addr} {xs : List Int} (h : Ints w A xs) {k : Nat} (hk : k < xs.length) :
    ∃ b off x y, A = some ⟨b, off, none⟩ ∧ b < w.heap.size ∧ w.cell? ⟨b, off + k, none⟩ = some (.int .i64 x) ∧ (0 < k → w.cell? ⟨b, off + (k - 1), none⟩ = some (.int .i64 y)) ∧ okAt xs k = (inB x 0 3 && (k == 0 || decide (y < x))) := by
  obtain ⟨b, off, rfl, hb, hc⟩ := h.at_ hk
  rcases Nat.eq_zero_or_pos k with h0 | h0
  · exact ⟨b, off, _, 0, rfl, hb, hc, fun h => absurd h (by omega), okAt_of (List.getElem?_eq_getElem hk) (fun h => absurd h (by omega))⟩
  · obtain ⟨b', off', e, _, hc'⟩ := h.at_ (k := k - 1) (by omega)
    injection e with e; injection e with e1 e2; subst e1; subst e2
    exact ⟨b, off, _, _, rfl, hb, hc, fun _ => hc', okAt_of (List.getElem?_eq_getElem hk) (fun _ => List.getElem?_eq_getElem (by omega))⟩
theorem bool4 (x y : Int) (k : Nat) : inB x 0 3 = false ∨ (inB x 0 3 = true ∧ k = 0) ∨ (inB x 0 3 = true ∧ 0 < k ∧ x ≤ y) ∨ (inB x 0 3 = true ∧ 0 < k ∧ y < x) := by
  cases inB x 0 3
  · simp
  · rcases Nat.eq_zero_or_pos k with h | h
    · simp [h]
    · by_cases h2 : x ≤ y
      · simp [h, h2]
      · right; right; right; exact ⟨rfl, h, by omega⟩

set_option maxHeartbeats 3200000 in
theorem implOwnOk_any (A : Option Addr) (n c : Nat) (xs : List Int) (w : World) (hx : Ints w A xs) (hn : xs.length = n) (hnb : n ≤ 1099511627776) :
    Calls Tryd.prog 39 #[.slice A n c] w fun e w' => e = .returned (.bool (ownB xs)) ∧ Below w.heap.size w w' := by
  have HX := Lib.hid hx; have HN := Lib.hid hn
  clear hx hn
  go_enter Tryd.func39, Tryd.ntmps39
  go_wp2
  go_loopw [7] (fun i wr => ∃ k : Nat, k ≤ n ∧ i = .int .i64 k ∧ Hid (∀ i, i < k → okAt xs i = true) ∧ Below w.heap.size w wr) (fun i _ => n - (intOf i).toNat)
  case atStart => exact ⟨0, Nat.zero_le _, rfl, fun i hi => absurd hi (by omega), Below.refl _ _⟩
  case round =>
    obtain ⟨k, hk, rfl, hpre, hB⟩ := hrel
    by_cases hlt : k < n
    · obtain ⟨b, off, x, y, rfl, hb, hcx, hcy, hok⟩ := own_round HX.out (k := k) (by have := HN.out; omega)
      have hcx := (hB.cell (p := ⟨b, off + k, none⟩) hb).trans hcx
      have hlt2 : (k : Int) < (n : Int) := by omega
      have hk0 : (0 : Int) ≤ (k : Int) := by omega
      have HOK := Lib.hid hok
      have HCY := Lib.hid hcy
      clear hok hcy
      rcases bool4 x y k with h1 | ⟨h1, h2⟩ | ⟨h1, h2, h3⟩ | ⟨h1, h2, h3⟩
      · have hno := Lib.hid (ownB_no (xs := xs) (k := k) (by have := HN.out; omega) (by rw [HOK.out, h1]; rfl))
        go_wp2_with (go_at_call 33; refine (within_any _ _ _ _).mono ?_; rintro e w' ⟨rfl, rfl⟩)
        go_ret
        exact ⟨by rw [hno.out]; rfl, hB⟩
      · have hs := Lib.hid (show ∀ i, i < k + 1 → okAt xs i = true from fun i hi => by
          rcases Nat.lt_succ_iff_lt_or_eq.1 hi with h | rfl
          · exact hpre.out i h
          · rw [HOK.out, h1, h2]; rfl)
        have hd : decide (0 < k) = false := decide_eq_false (by omega)
        clear h2
        go_wp2_with (go_at_call 33; refine (within_any _ _ _ _).mono ?_; rintro e w' ⟨rfl, rfl⟩)
        exact ⟨⟨k + 1, by omega, by go_num, hs, hB⟩, by simp [intOf]; omega⟩
      · have hno := Lib.hid (ownB_no (xs := xs) (k := k) (by have := HN.out; omega) (by rw [HOK.out, h1]; simp; omega))
        have hcy := (hB.cell (p := ⟨b, off + (k - 1), none⟩) hb).trans (HCY.out h2)
        have hp : (0 : Int) < (k : Int) := by omega
        have hd2 : decide (x ≤ y) = true := decide_eq_true h3
        have hi1 : (0 : Int) ≤ (k : Int) - 1 := by omega
        have hi2 : (k : Int) - 1 < (n : Int) := by omega
        have hi3 : ((k : Int) - 1).toNat = k - 1 := by omega
        have hi4 : IntKind.i64.wrap ((k : Int) - 1) = (k : Int) - 1 := IntWalk.i64_in _ (by omega)
        go_wp2_with (go_at_call 33; refine (within_any _ _ _ _).mono ?_; rintro e w' ⟨rfl, rfl⟩)
        go_ret
        exact ⟨by rw [hno.out]; rfl, hB⟩
      · have hs := Lib.hid (show ∀ i, i < k + 1 → okAt xs i = true from fun i hi => by
          rcases Nat.lt_succ_iff_lt_or_eq.1 hi with h | rfl
          · exact hpre.out i h
          · rw [HOK.out, h1]; simp [h3])
        have hcy := (hB.cell (p := ⟨b, off + (k - 1), none⟩) hb).trans (HCY.out h2)
        have hp : (0 : Int) < (k : Int) := by omega
        have hd2 : decide (x ≤ y) = false := decide_eq_false (by omega)
        have hi1 : (0 : Int) ≤ (k : Int) - 1 := by omega
        have hi2 : (k : Int) - 1 < (n : Int) := by omega
        have hi3 : ((k : Int) - 1).toNat = k - 1 := by omega
        have hi4 : IntKind.i64.wrap ((k : Int) - 1) = (k : Int) - 1 := IntWalk.i64_in _ (by omega)
        go_wp2_with (go_at_call 33; refine (within_any _ _ _ _).mono ?_; rintro e w' ⟨rfl, rfl⟩)
        exact ⟨⟨k + 1, by omega, by go_num, hs, hB⟩, by simp [intOf]; omega⟩
    · obtain rfl : k = n := by omega
      have hy := Lib.hid (ownB_yes (xs := xs) (fun i hi => hpre.out i (by have := HN.out; omega)))
      go_wp2
      go_ret
      exact ⟨by rw [hy.out]; rfl, hB⟩

end Go.Proofs.YtkcchceoljlnaaaDoor
