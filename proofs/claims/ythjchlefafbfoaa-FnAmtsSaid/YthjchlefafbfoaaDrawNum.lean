/- Contracts of the draws of a number and of AmtOne's arguments. -/
import Derived.Test.YthjchlefafbfoaaDrawAmt
namespace Go.Proofs.Ythjchlefafbfoaa
set_option linter.unusedSimpArgs false
set_option linter.unusedVariables false
open Go.RowKit
attribute [local go_sem ↓] Go.wp_at_zero Go.wp_at_succ

def IntP (W : World) (g : Nat) (A : Option Addr) (n c : Nat) (w : World) (e : Ending) (w' : World) : Prop :=
  ∃ z : Int, e = .returned (.int .i64 z) ∧ Dr W g A n c w' ∧ w.grownBy w' (some g)
def numList : List Int := [-1, 0, 127, 128, 255, 256, 16383, 16384, 65535, 65536, 562949953421311, 562949953421312, 999999999, 1000000000, -999999999, 9223372036854775807, -9223372036854775808]
set_option maxHeartbeats 1600000 in
theorem l1Num_any (W : World) (g : Nat) (A : Option Addr) (n c : Nat) (w : World) (hA : Bys W A n) (hn : n ≤ 1048576) (hd : Dr W g A n c w) :
    Calls Try.prog 47 #[.pointer (some ⟨g, 0, none⟩)] w (IntP W g A n c w) := by
  have D := Lib.hid (fun m w' h h1 h2 => l1Below_any W g A n c m w' hA hn h1 h2 h)
  have E := Lib.hid (fun b w' h h1 h2 => l1PickInt_any W g A n c numList b 17 17 w' hA hn h rfl (by omega) (by omega) h1 h2)
  have HD := Lib.hid hd
  clear hA hd
  go_enter Try.func47, Try.ntmps47
  go_wp2_with fail
  refine (D.out 8 _ HD.out (by omega) (by omega)).mono ?_
  rintro e w1 ⟨z, hz0, hz1, rfl, hD1, hg1⟩
  have H1 := Lib.hid hD1; have G1 := Lib.hid hg1
  clear hD1 hg1
  by_cases h0 : z = 0
  · subst h0
    go_wp2_with fail
    refine (E.out _ _ (H1.out.al _) (by have := H1.out.lt; omega) (lits w1 _ _ numList rfl)).mono ?_
    rintro e w2 ⟨z, hz, rfl, hD2, hg2⟩
    have H2 := Lib.hid hD2; have G2 := Lib.hid (gr_trans (gr_alloc G1.out _) hg2)
    clear hD2 hg2 hz
    go_wp2
    go_ret
    exact ⟨z, rfl, H2.out, G2.out⟩
  · have e0 : (z == (0 : Int)) = false := by simpa using h0
    by_cases h1 : z = 1
    · subst h1
      go_wp2_with fail
      refine (D.out 1000000000 _ H1.out (by omega) (by omega)).mono ?_
      rintro e w2 ⟨z2, hz2, hz2', rfl, hD2, hg2⟩
      have H2 := Lib.hid hD2; have G2 := Lib.hid (gr_trans G1.out hg2)
      clear hD2 hg2
      go_wp2_with fail
      refine (D.out 1000000000 _ H2.out (by omega) (by omega)).mono ?_
      rintro e w3 ⟨z3, hz3, hz3', rfl, hD3, hg3⟩
      have H3 := Lib.hid hD3; have G3 := Lib.hid (gr_trans G2.out hg3)
      clear hD3 hg3
      go_wp2
      go_ret
      exact ⟨_, rfl, H3.out, G3.out⟩
    · have e1 : (z == (1 : Int)) = false := by simpa using h1
      by_cases h2 : z = 2
      · subst h2
        go_wp2_with fail
        refine (D.out 100000 _ H1.out (by omega) (by omega)).mono ?_
        rintro e w2 ⟨z2, hz2, hz2', rfl, hD2, hg2⟩
        have H2 := Lib.hid hD2; have G2 := Lib.hid (gr_trans G1.out hg2)
        clear hD2 hg2
        go_wp2
        go_ret
        exact ⟨_, rfl, H2.out, G2.out⟩
      · have e2 : (z == (2 : Int)) = false := by simpa using h2
        have h012 : 3 ≤ z := by omega
        clear h0 h1 h2
        go_wp2_with fail
        refine (D.out 70000 _ H1.out (by omega) (by omega)).mono ?_
        rintro e w2 ⟨z2, hz2, hz2', rfl, hD2, hg2⟩
        have H2 := Lib.hid hD2; have G2 := Lib.hid (gr_trans G1.out hg2)
        clear hD2 hg2
        go_wp2
        go_ret
        exact ⟨_, rfl, H2.out, G2.out⟩
def OneP (w : World) (e : Ending) (w' : World) : Prop := ∃ z k : Int, e = .returned (.tuple #[.int .i64 z, .int .i64 k]) ∧ Below w.heap.size w w'
set_option maxHeartbeats 1600000 in
theorem DrawAmtOne_any (A : Option Addr) (n c : Nat) (w : World) (hA : Bys w A n) (hn : n ≤ 1048576) :
    Calls Try.prog 34 #[.slice A n c] w (OneP w) := by
  have N := Lib.hid (l1New_any A n c w hA hn)
  have FB := Lib.hid (fun g w' h => l1Below_any w g A n c 5 w' hA hn (by omega) (by omega) h)
  have FN := Lib.hid (fun g w' h => l1Num_any w g A n c w' hA hn h)
  clear hA
  go_enter Try.func34, Try.ntmps34
  go_wp2_with fail
  refine N.out.mono ?_
  rintro e w1 ⟨g, rfl, hD⟩
  have HD := Lib.hid hD
  clear hD
  go_wp2_with fail
  refine (FB.out _ _ HD.out).mono ?_
  rintro e w2 ⟨z, hz0, hz1, rfl, hD, hg⟩
  have HD := Lib.hid hD
  clear hD hg
  go_wp2_with fail
  refine (FN.out _ _ HD.out).mono ?_
  rintro e w3 ⟨k, rfl, hD, hg⟩
  have HB := Lib.hid hD.below
  clear hD hg
  go_wp2
  go_ret2
  exact ⟨_, _, rfl, HB.out⟩

end Go.Proofs.Ythjchlefafbfoaa
