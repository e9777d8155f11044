/- Slices of structs (Res) in memory, and the laws' own functions on them (copy, compare, mark, look). -/
import Derived.Test.YtdgkfpcecppfdaaRegion
import Derived.Test.YtdgkfpcecppfdaaAmt
import Derived.Deep.QuietTactic
import Derived.BigQuiet
import Derived.Deep.OwnRows
import Derived.Deep.Draws
import Derived.Deep.RegionHeld3
import Derived.Maps.AppendAt
import Derived.OwnWalk
import Derived.Test.YtdgkfpcecppfdaaERowsA
namespace Go.Proofs.Ytdgkfpcecppfdaa
set_option linter.unusedSimpArgs false
set_option linter.unusedVariables false
open Go.RowKit
attribute [local go_sem ↓] Go.wp_at_zero Go.wp_at_succ

set_option maxHeartbeats 3200000 in
theorem eqEls_any (A B : Option Addr) (n m c d : Nat) (xs ys : List El) (w : World) (hx : Els w A xs) (hy : Els w B ys) (hn : xs.length = n) (hm : ys.length = m) (hnb : n ≤ 1099511627776) (hmb : m ≤ 1099511627776) :
    Calls Try.prog 16 #[.slice A n c, .slice B m d] w fun e w' => e = .returned (.bool (decide (xs = ys))) ∧ Below w.heap.size w w' := by
  by_cases hnm : n = m
  · subst hnm
    have HX := Lib.hid hx; have HY := Lib.hid hy; have HN := Lib.hid hn; have HM := Lib.hid hm
    clear hx hy hn hm
    go_enter Try.func16, Try.ntmps16
    go_wp2
    go_loopw [5] (fun i wr => ∃ k : Nat, k ≤ n ∧ i = .int .i64 k ∧ Hid (xs.take k = ys.take k) ∧ Below w.heap.size w wr) (fun i _ => n - (intOf i).toNat)
    case atStart => exact ⟨0, Nat.zero_le _, rfl, rfl, Below.refl _ _⟩
    case round =>
      obtain ⟨k, hk, rfl, hpre, hB⟩ := hrel
      by_cases hlt : k < n
      · have ex := Lib.hid (List.getElem?_eq_getElem (l := xs) (i := k) (by have := HN.out; omega))
        have ey := Lib.hid (List.getElem?_eq_getElem (l := ys) (i := k) (by have := HM.out; omega))
        generalize xs[k]'(by have := HN.out; omega) = x at *
        generalize ys[k]'(by have := HM.out; omega) = y at *
        obtain ⟨b, off, rfl, hbx, cx0, cx1, cx2, cx3, cx4⟩ := HX.out.at_ ex.out
        obtain ⟨b', off', rfl, hby, cy0, cy1, cy2, cy3, cy4⟩ := HY.out.at_ ey.out
        have cx0 := Below.keeps hB cx0; have cx1 := Below.keeps hB cx1; have cx2 := Below.keeps hB cx2; have cx3 := Below.keeps hB cx3; have cx4 := Below.keeps hB cx4; have cy0 := Below.keeps hB cy0; have cy1 := Below.keeps hB cy1; have cy2 := Below.keeps hB cy2; have cy3 := Below.keeps hB cy3; have cy4 := Below.keeps hB cy4
        have hlt2 : (k : Int) < (n : Int) := by omega
        have hk0 : (0 : Int) ≤ (k : Int) := by omega
        have hsz := hB.size
        by_cases hxy : x = y
        · have hd : decide (x = y) = true := by simpa using hxy
          have hs := Lib.hid (show xs.take (k + 1) = ys.take (k + 1) by
            rw [List.take_add_one, List.take_add_one, ex.out, ey.out, hpre.out, hxy])
          clear hxy
          go_wp2_with fail
          go_region_held3 (fun w' => w'.cell? ⟨b, off + k * 5, none⟩ = some (.bool x.1) ∧ w'.cell? ⟨b, off + k * 5 + 1, none⟩ = some (.int .i64 x.2.1) ∧ w'.cell? ⟨b, off + k * 5 + 2, none⟩ = some (.int .i64 x.2.2.1) ∧ w'.cell? ⟨b, off + k * 5 + 3, none⟩ = some (.int .i64 x.2.2.2.1) ∧ w'.cell? ⟨b, off + k * 5 + 4, none⟩ = some (.int .i64 x.2.2.2.2) ∧ w'.cell? ⟨b', off' + k * 5, none⟩ = some (.bool y.1) ∧ w'.cell? ⟨b', off' + k * 5 + 1, none⟩ = some (.int .i64 y.2.1) ∧ w'.cell? ⟨b', off' + k * 5 + 2, none⟩ = some (.int .i64 y.2.2.1) ∧ w'.cell? ⟨b', off' + k * 5 + 3, none⟩ = some (.int .i64 y.2.2.2.1) ∧ w'.cell? ⟨b', off' + k * 5 + 4, none⟩ = some (.int .i64 y.2.2.2.2)) ((repeat' apply And.intro) <;> (first | assumption | (simp [*]; done)))
            (first | (go_at_call 46; refine (eqEl_any x y _).mono ?_; rintro e w2 ⟨rfl, hb⟩; rw [hd]; have cx0 := Below.keeps hb cx0; have cx1 := Below.keeps hb cx1; have cx2 := Below.keeps hb cx2; have cx3 := Below.keeps hb cx3; have cx4 := Below.keeps hb cx4; have cy0 := Below.keeps hb cy0; have cy1 := Below.keeps hb cy1; have cy2 := Below.keeps hb cy2; have cy3 := Below.keeps hb cy3; have cy4 := Below.keeps hb cy4; have hB := Below.trans hB.drew (hb.mono hsz)))
          go_wp2
          exact ⟨⟨k + 1, by omega, by go_num, hs, hB⟩, by simp [intOf]; omega⟩
        · have hd : decide (x = y) = false := by simpa using hxy
          have hne := Lib.hid hxy
          clear hxy
          go_wp2_with fail
          go_region_held3 (fun w' => w'.cell? ⟨b, off + k * 5, none⟩ = some (.bool x.1) ∧ w'.cell? ⟨b, off + k * 5 + 1, none⟩ = some (.int .i64 x.2.1) ∧ w'.cell? ⟨b, off + k * 5 + 2, none⟩ = some (.int .i64 x.2.2.1) ∧ w'.cell? ⟨b, off + k * 5 + 3, none⟩ = some (.int .i64 x.2.2.2.1) ∧ w'.cell? ⟨b, off + k * 5 + 4, none⟩ = some (.int .i64 x.2.2.2.2) ∧ w'.cell? ⟨b', off' + k * 5, none⟩ = some (.bool y.1) ∧ w'.cell? ⟨b', off' + k * 5 + 1, none⟩ = some (.int .i64 y.2.1) ∧ w'.cell? ⟨b', off' + k * 5 + 2, none⟩ = some (.int .i64 y.2.2.1) ∧ w'.cell? ⟨b', off' + k * 5 + 3, none⟩ = some (.int .i64 y.2.2.2.1) ∧ w'.cell? ⟨b', off' + k * 5 + 4, none⟩ = some (.int .i64 y.2.2.2.2)) ((repeat' apply And.intro) <;> (first | assumption | (simp [*]; done)))
            (first | (go_at_call 46; refine (eqEl_any x y _).mono ?_; rintro e w2 ⟨rfl, hb⟩; rw [hd]; have cx0 := Below.keeps hb cx0; have cx1 := Below.keeps hb cx1; have cx2 := Below.keeps hb cx2; have cx3 := Below.keeps hb cx3; have cx4 := Below.keeps hb cx4; have cy0 := Below.keeps hb cy0; have cy1 := Below.keeps hb cy1; have cy2 := Below.keeps hb cy2; have cy3 := Below.keeps hb cy3; have cy4 := Below.keeps hb cy4; have hB := Below.trans hB.drew (hb.mono hsz)))
          go_wp2
          go_ret
          exact ⟨by rw [show decide (xs = ys) = false from by simp only [decide_eq_false_iff_not]; intro e; subst e; have h1 := ex.out; rw [ey.out] at h1; exact hne.out (Option.some.inj h1).symm]; rfl, hB⟩
      · obtain rfl : k = n := by omega
        go_wp2
        go_ret
        exact ⟨by rw [show decide (xs = ys) = true from by have := hpre.out; rw [List.take_of_length_le (by have := HN.out; omega), List.take_of_length_le (by have := HM.out; omega)] at this; simp [this]]; rfl, hB⟩
  · have h1 : ((n : Int) != (m : Int)) = true := by simp; omega
    have HN := Lib.hid hn; have HM := Lib.hid hm
    clear hx hy hn hm
    go_enter Try.func16, Try.ntmps16
    go_wp2
    go_ret
    exact ⟨by rw [show decide (xs = ys) = false from by simp; intro h; have := HN.out; have := HM.out; subst h; omega]; rfl, Below.refl _ _⟩


end Go.Proofs.Ytdgkfpcecppfdaa
