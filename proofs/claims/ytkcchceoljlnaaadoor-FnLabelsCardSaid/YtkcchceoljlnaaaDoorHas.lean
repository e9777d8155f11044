/- Contracts of l4Has, slices.Index, slices.Contains. -/
import Derived.Test.YtkcchceoljlnaaaDoorInts
namespace Go.Proofs.YtkcchceoljlnaaaDoor
set_option linter.unusedSimpArgs false
set_option linter.unusedVariables false
open Go.RowKit

def hasB (os : List Int) (x : Int) : Bool := decide (x ∈ os)
theorem hasB_yes {os : List Int} {x : Int} {k : Nat} (h : os[k]? = some x) : hasB os x = true := by
  simp only [hasB, decide_eq_true_eq]; exact List.mem_of_getElem? h
theorem hasB_no {os : List Int} {x : Int} (h : ∀ j, j < os.length → os[j]? ≠ some x) : hasB os x = false := by
  simp only [hasB, decide_eq_false_iff_not]
  intro hm
  obtain ⟨j, hj⟩ := List.mem_iff_getElem?.1 hm
  exact h j (List.getElem?_eq_some_iff.1 hj).1 hj
set_option maxHeartbeats 1600000 in
theorem index_yes (A : Option Addr) (n c : Nat) (os : List Int) (x : Int) (w : World) (hx : Ints w A os) (hn : os.length = n) (hnb : n ≤ 1099511627776) (h : hasB os x = true) :
    Calls Tryd.prog 46 #[.slice A n c, .int .i64 x] w fun e w' => (∃ k : Nat, e = .returned (.int .i64 k)) ∧ w = w' := by
  have HX := Lib.hid hx; have HN := Lib.hid hn; have HH := Lib.hid h
  clear hx hn h
  go_enter Tryd.func46, Tryd.ntmps46
  go_wp2
  go_loop [8] (fun i => ∃ k : Nat, k ≤ n ∧ i = .int .i64 k ∧ Hid (∀ j, j < k → os[j]? ≠ some x)) (fun i => n - (intOf i).toNat)
  case atStart => exact ⟨0, Nat.zero_le _, rfl, fun i hi => absurd hi (by omega)⟩
  case round =>
    obtain ⟨k, hk, rfl, hpre⟩ := hrel
    by_cases hlt : k < n
    · obtain ⟨b, off, rfl, hb, hcx⟩ := Ints.at_ HX.out (k := k) (by have := HN.out; omega)
      have ex := Lib.hid (List.getElem?_eq_getElem (l := os) (i := k) (by have := HN.out; omega))
      generalize os[k]'(by have := HN.out; omega) = y at *
      by_cases hxy : y = x
      · subst hxy
        have h1 : (y == y) = true := by simp
        go_wp2
        go_ret
        exact ⟨⟨k, rfl⟩, rfl⟩
      · have h1 : (x == y) = false := by simpa using fun e : x = y => hxy e.symm
        have hs := Lib.hid (show ∀ j, j < k + 1 → os[j]? ≠ some x from fun j hj => by
          rcases Nat.lt_succ_iff_lt_or_eq.1 hj with h | rfl
          · exact hpre.out j h
          · rw [ex.out]; exact fun e => hxy (Option.some.inj e))
        go_wp2
        exact ⟨⟨k + 1, by omega, by go_num, hs⟩, by simp [intOf]; omega⟩
    · obtain rfl : k = n := by omega
      exfalso
      have h1 := hasB_no (os := os) (x := x) (fun j hj => hpre.out j (by have := HN.out; omega))
      have h2 := HH.out
      rw [h1] at h2; cases h2
set_option maxHeartbeats 1600000 in
theorem index_no (A : Option Addr) (n c : Nat) (os : List Int) (x : Int) (w : World) (hx : Ints w A os) (hn : os.length = n) (hnb : n ≤ 1099511627776) (h : hasB os x = false) :
    Calls Tryd.prog 46 #[.slice A n c, .int .i64 x] w fun e w' => e = .returned (.int .i64 (-1)) ∧ w = w' := by
  have HX := Lib.hid hx; have HN := Lib.hid hn; have HH := Lib.hid h
  clear hx hn h
  go_enter Tryd.func46, Tryd.ntmps46
  go_wp2
  go_loop [8] (fun i => ∃ k : Nat, k ≤ n ∧ i = .int .i64 k) (fun i => n - (intOf i).toNat)
  case atStart => exact ⟨0, Nat.zero_le _, rfl⟩
  case round =>
    obtain ⟨k, hk, rfl⟩ := hrel
    by_cases hlt : k < n
    · obtain ⟨b, off, rfl, hb, hcx⟩ := Ints.at_ HX.out (k := k) (by have := HN.out; omega)
      have ex := Lib.hid (List.getElem?_eq_getElem (l := os) (i := k) (by have := HN.out; omega))
      generalize os[k]'(by have := HN.out; omega) = y at *
      have hxy : y ≠ x := fun e => by subst e; have h1 := hasB_yes ex.out; have h2 := HH.out; rw [h1] at h2; cases h2
      have h1 : (x == y) = false := by simpa using fun e : x = y => hxy e.symm
      go_wp2
      exact ⟨⟨k + 1, by omega, by go_num⟩, by simp [intOf]; omega⟩
    · obtain rfl : k = n := by omega
      go_wp2
      go_ret
      exact ⟨rfl, rfl⟩
theorem contains_any (A : Option Addr) (n c : Nat) (os : List Int) (x : Int) (w : World) (hx : Ints w A os) (hn : os.length = n) (hnb : n ≤ 1099511627776) :
    Calls Tryd.prog 41 #[.slice A n c, .int .i64 x] w fun e w' => e = .returned (.bool (hasB os x)) ∧ w = w' := by
  have HN := Lib.hid hn
  clear hn
  cases h : hasB os x
  · have C := Lib.hid (index_no A n c os x w hx HN.out hnb h)
    go_enter Tryd.func41, Tryd.ntmps41
    go_wp2_with fail
    refine (Calls.mono C.out ?_)
    rintro e w' ⟨rfl, rfl⟩
    go_wp2_with fail
    go_ret
    exact ⟨rfl, rfl⟩
  · have C := Lib.hid (index_yes A n c os x w hx HN.out hnb h)
    go_enter Tryd.func41, Tryd.ntmps41
    go_wp2_with fail
    refine (Calls.mono C.out ?_)
    rintro e w' ⟨⟨k, rfl⟩, rfl⟩
    have hk : (0 : Int) ≤ (k : Int) := by omega
    go_wp2_with fail
    go_ret
    exact ⟨rfl, rfl⟩
end Go.Proofs.YtkcchceoljlnaaaDoor
