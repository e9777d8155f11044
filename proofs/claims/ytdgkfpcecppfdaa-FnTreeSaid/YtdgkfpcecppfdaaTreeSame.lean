/- FnTree: sameTree, at, big. -/
import Derived.Test.YtdgkfpcecppfdaaDrawTree
import Derived.Test.YtdgkfpcecppfdaaETreeLaw
import Derived.Test.YtdgkfpcecppfdaaETreeSum
import Derived.Test.YtdgkfpcecppfdaaEOpen
import Derived.Lib.QuietBelow
namespace Go.Proofs.Ytdgkfpcecppfdaa
set_option linter.unusedSimpArgs false
set_option linter.unusedVariables false
open Go.RowKit
attribute [local go_sem ↓] Go.wp_at_zero Go.wp_at_succ

set_option maxHeartbeats 400000 in
theorem big_any (A : Option Addr) (n c : Nat) (w : World) (hn : n ≤ 9223372036854775807) : Calls Try.prog 41 #[.slice A n c] w fun e w' => e = .returned (.bool (decide ((1048576 : Int) < (n : Int)))) ∧ w = w' := by
  go_enter Try.func41, Try.ntmps41
  go_wp2
  go_ret
  exact ⟨by first | rfl | simp, rfl⟩
set_option maxHeartbeats 400000 in
theorem at_three (A : Option Addr) (n c : Nat) (w : World) (hA : Bys w A n) (hn : n ≤ 1048576) : Calls Try.prog 44 #[.slice A n c, .int .i64 3] w fun e w' => (∃ z : Int, 0 ≤ z ∧ e = .returned (.int .i64 z)) ∧ w = w' := by
  have HA := Lib.hid hA
  clear hA
  by_cases h : 3 < n
  · obtain ⟨b, off, rfl, hb, z, hz, hc⟩ := HA.out.at_ h
    have h2 : (3 : Int) < (n : Int) := by omega
    go_enter Try.func44, Try.ntmps44
    go_wp2
    go_ret
    exact ⟨⟨z, by omega, rfl⟩, rfl⟩
  · have h2 : ¬ (3 : Int) < (n : Int) := by omega
    go_enter Try.func44, Try.ntmps44
    go_wp2
    go_ret
    refine ⟨⟨_, ?_, rfl⟩, rfl⟩
    omega
set_option maxHeartbeats 1600000 in
theorem sameTree_self (A B : Option Addr) (n c d : Nat) (t : List El) (w : World) (hx : Els w A t) (hy : Els w B t) (hn : t.length = n) (hnb : n ≤ 1099511627776) :
    Calls Try.prog 43 #[.slice A n c, .slice B n d] w fun e w' => e = .returned (.bool true) ∧ Below w.heap.size w w' := by
  have HX := Lib.hid hx; have HY := Lib.hid hy; have HN := Lib.hid hn
  clear hx hy hn
  go_enter Try.func43, Try.ntmps43
  go_wp2
  go_loopw [5] (fun i wr => ∃ k : Nat, k ≤ n ∧ i = .int .i64 k ∧ Below w.heap.size w wr) (fun i _ => n - (intOf i).toNat)
  case atStart => exact ⟨0, Nat.zero_le _, rfl, Below.refl _ _⟩
  case round =>
    obtain ⟨k, hk, rfl, hB⟩ := hrel
    by_cases hlt : k < n
    · have ex := Lib.hid (List.getElem?_eq_getElem (l := t) (i := k) (by have := HN.out; omega))
      generalize t[k]'(by have := HN.out; omega) = x at *
      obtain ⟨b, off, rfl, hb, c0, c1, c2, c3, c4⟩ := HX.out.at_ ex.out
      obtain ⟨b', off', rfl, hb', d0, d1, d2, d3, d4⟩ := HY.out.at_ ex.out
      have c0 := Below.keeps hB c0; have c1 := Below.keeps hB c1; have c2 := Below.keeps hB c2; have c3 := Below.keeps hB c3; have c4 := Below.keeps hB c4
      have d0 := Below.keeps hB d0; have d1 := Below.keeps hB d1; have d2 := Below.keeps hB d2; have d3 := Below.keeps hB d3; have d4 := Below.keeps hB d4
      have hk0 : (0 : Int) ≤ (k : Int) := by omega
      have hlt2 : (k : Int) < (n : Int) := by omega
      go_wp2_with fail
      go_quiet (fail)
      go_wp2
      exact ⟨⟨k + 1, by omega, by go_num, below_drewN hB _⟩, by simp [intOf]; omega⟩
    · obtain rfl : k = n := by omega
      go_wp2
      go_ret
      exact ⟨rfl, hB⟩
end Go.Proofs.Ytdgkfpcecppfdaa
