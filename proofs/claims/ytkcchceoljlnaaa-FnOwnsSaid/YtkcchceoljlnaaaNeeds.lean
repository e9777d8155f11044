/- Contracts of Needs. -/
import Derived.Test.YtkcchceoljlnaaaJLaw
import Derived.Test.YtkcchceoljlnaaaJoinM
import Derived.Test.YtkcchceoljlnaaaFlowsP
namespace Go.Proofs.Ytkcchceoljlnaaa
set_option linter.unusedSimpArgs false
set_option linter.unusedVariables false
open Go.RowKit
attribute [local go_sem ↓] Go.wp_at_zero Go.wp_at_succ

def needsR (os xs ys : List Int) : List Int := if flowB os xs ys then aboveTo xs ys 4 else []
theorem needsR_no {os xs ys : List Int} (h : flowB os xs ys = false) : needsR os xs ys = [] := by simp [needsR, h]
theorem needsR_yes {os xs ys : List Int} (h : flowB os xs ys = true) : needsR os xs ys = aboveTo xs ys 4 := by simp [needsR, h]
theorem needsR_len (os xs ys : List Int) : (needsR os xs ys).length ≤ 4 := by
  unfold needsR
  split
  · exact aboveTo_len _ _ _
  · simp
theorem flowB_labs {os xs ys : List Int} (h : flowB os xs ys = true) : labB xs = true ∧ labB ys = true := by
  simp only [flowB, Bool.and_eq_true] at h
  exact ⟨h.1.1.2, h.1.2⟩
def OutI (L : List Int) (w : World) (e : Ending) (w' : World) : Prop :=
  ∃ A' c', e = .returned (.slice A' L.length c') ∧ Own w' w.heap.size 3 A' (L.map (Value.int .i64)) ∧ Below w.heap.size w w'
set_option maxHeartbeats 3200000 in
theorem implNeeds_any (O A B : Option Addr) (q n m e0 c d : Nat) (os xs ys : List Int) (w : World) (hK : Ints w O os) (ho : os.length = q) (hqb : q ≤ 1099511627776) (hI : Ints w A xs) (hn : xs.length = n) (hnb : n ≤ 1099511627776) (hJ : Ints w B ys) (hm : ys.length = m) (hmb : m ≤ 1099511627776) :
    Calls Try.prog 40 #[.slice O q e0, lab A n c, lab B m d] w (OutI (needsR os xs ys) w) := by
  have C := Lib.hid (fun w' h1 h2 h3 => implFlowsFor_any O A B q n m e0 c d os xs ys w' h1 ho hqb h2 hn hnb h3 hm hmb)
  have HK := Lib.hid hK; have HI := Lib.hid hI; have HJ := Lib.hid hJ
  cases hf : flowB os xs ys
  · have hr := Lib.hid (needsR_no hf)
    rw [hf] at C
    clear hK hI hJ hn hm ho hf
    go_enter Try.func40, Try.ntmps40
    go_wp2_with fail
    refine (C.out _ ((HK.out.alloc _).alloc _) ((HI.out.alloc _).alloc _) ((HJ.out.alloc _).alloc _)).mono ?_
    rintro e w2 ⟨rfl, hb⟩
    have hB := Below.trans (((Below.refl w.heap.size w).alloc (Nat.le_refl _) _).alloc (by simp) _) (hb.mono (by simp; omega))
    clear hb
    go_wp2
    go_ret
    exact ⟨none, 0, by rw [hr.out]; rfl, by rw [hr.out]; exact .inl rfl, hB⟩
  · have hr := Lib.hid (needsR_yes hf)
    have hl := flowB_labs hf
    obtain rfl : n = 4 := by rw [← hn]; exact labB_len4 hl.1
    obtain rfl : m = 4 := by rw [← hm]; exact labB_len4 hl.2
    have D := Lib.hid (fun w' h1 h2 => above_any A B c d xs ys w' h1 h2 hn hm)
    rw [hf] at C
    clear hK hI hJ hn hm ho hf hl
    go_enter Try.func40, Try.ntmps40
    go_wp2_with fail
    refine (C.out _ ((HK.out.alloc _).alloc _) ((HI.out.alloc _).alloc _) ((HJ.out.alloc _).alloc _)).mono ?_
    rintro e w2 ⟨rfl, hb⟩
    have hB := Below.trans (((Below.refl w.heap.size w).alloc (Nat.le_refl _) _).alloc (by simp) _) (hb.mono (by simp; omega))
    have c0 : w2.cell? ⟨w.heap.size, 0, none⟩ = some (.slice A 4 c) := Below.keeps hb (by simp)
    have c1 : w2.cell? ⟨w.heap.size + 1, 0, none⟩ = some (.slice B 4 d) := Below.keeps hb (by simp)
    have hs := hB.size
    clear hb
    go_wp2_with fail
    refine (D.out _ (HI.out.keep fun _ _ h => Below.keeps hB h) (HJ.out.keep fun _ _ h => Below.keeps hB h)).mono ?_
    rintro e w3 ⟨v, rfl, ho, hb⟩
    obtain ⟨A', c', rfl, ho2⟩ := own_of_row ho
    have HO := Lib.hid (ho2.more hs)
    have hB := Below.trans hB (hb.mono hs)
    clear hb ho ho2
    go_wp2
    go_ret
    exact ⟨A', c', by rw [hr.out]; rfl, by rw [hr.out]; exact HO.out, hB⟩
set_option maxHeartbeats 6400000 in
theorem specNeeds_any (O A B : Option Addr) (q n m e0 c d : Nat) (os xs ys : List Int) (w : World) (hK : Ints w O os) (ho : os.length = q) (hqb : q ≤ 1099511627776) (hI : Ints w A xs) (hn : xs.length = n) (hnb : n ≤ 1099511627776) (hJ : Ints w B ys) (hm : ys.length = m) (hmb : m ≤ 1099511627776) :
    Calls Try.prog 39 #[.slice O q e0, lab A n c, lab B m d] w (OutI (needsR os xs ys) w) := by
  have C := Lib.hid (fun w' h1 h2 h3 => specFlowsFor_any O A B q n m e0 c d os xs ys w' h1 ho hqb h2 hn hnb h3 hm hmb)
  have HK := Lib.hid hK; have HI := Lib.hid hI; have HJ := Lib.hid hJ
  cases hf : flowB os xs ys
  · have hr := Lib.hid (needsR_no hf)
    rw [hf] at C
    clear hK hI hJ hn hm ho hf
    go_enter Try.func39, Try.ntmps39
    go_wp2_with fail
    refine (C.out _ (((HK.out.alloc _).alloc _).alloc _) (((HI.out.alloc _).alloc _).alloc _) (((HJ.out.alloc _).alloc _).alloc _)).mono ?_
    rintro e w2 ⟨rfl, hb⟩
    have hB := Below.trans ((((Below.refl w.heap.size w).alloc (Nat.le_refl _) _).alloc (by simp) _).alloc (by simp; omega) _) (hb.mono (by simp; omega))
    clear hb
    go_wp2
    go_ret
    exact ⟨_, 0, by rw [hr.out]; rfl, by rw [hr.out]; exact .inl rfl, hB⟩
  · have hr := Lib.hid (needsR_yes hf)
    have hl := flowB_labs hf
    obtain rfl : n = 4 := by rw [← hn]; exact labB_len4 hl.1
    obtain rfl : m = 4 := by rw [← hm]; exact labB_len4 hl.2
    obtain ⟨i0, hi, hz0, hz1, hz2⟩ := info_parts int_info
    have HN := Lib.hid hn; have HM := Lib.hid hm
    rw [hf] at C
    clear hK hI hJ hn hm ho hf hl
    go_enter Try.func39, Try.ntmps39
    go_wp2_with fail
    refine (C.out _ (((HK.out.alloc _).alloc _).alloc _) (((HI.out.alloc _).alloc _).alloc _) (((HJ.out.alloc _).alloc _).alloc _)).mono ?_
    rintro e w2 ⟨rfl, hb⟩
    have hB := Below.trans ((((Below.refl w.heap.size w).alloc (Nat.le_refl _) _).alloc (by simp) _).alloc (by simp; omega) _) (hb.mono (by simp; omega))
    have c0 : w2.cell? ⟨w.heap.size, 0, none⟩ = some (.slice A 4 c) := Below.keeps hb (cell_alloc_ (by simp))
    have c1 : w2.cell? ⟨w.heap.size + 1, 0, none⟩ = some (.slice B 4 d) := Below.keeps hb (cell_alloc_ (by simp))
    have hown := Lib.hid (ownsRow_below (ownsRow_made ((w.alloc (.cells #[.slice A 4 c] 30)).alloc (.cells #[.slice B 4 d] 30)) (w.heap.size + 2) 3 (by simp)) hb)
    simp only [World.size_alloc] at hown
    have c0 := Lib.hid c0; have c1 := Lib.hid c1
    have hs := hB.size
    have hl2 : w.heap.size + 2 ≤ w2.heap.size := by have := hb.size; simp at this; omega
    clear hb
    go_wp2
    go_loopw [7, 8] (fun v i wr => ∃ k : Nat, k ≤ 4 ∧ i = .int .i64 k ∧ Hid (wr.ownsRow (w.heap.size + 2) 3 1 v (aboveTo xs ys k).length ((aboveTo xs ys k).map (Value.int .i64))) ∧ Hid (wr.cell? ⟨w.heap.size, 0, none⟩ = some (.slice A 4 c)) ∧ Hid (wr.cell? ⟨w.heap.size + 1, 0, none⟩ = some (.slice B 4 d)) ∧ Below w.heap.size w wr ∧ w.heap.size + 2 ≤ wr.heap.size) (fun _ i _ => 4 - (intOf i).toNat)
    case atStart => exact ⟨0, Nat.zero_le _, rfl, hown.out, c0.out, c1.out, hB, hl2⟩
    case round =>
      obtain ⟨k, hk, rfl, hown, c0, c1, hB, hl2⟩ := hrel
      have hsz := hB.size
      by_cases hlt : k < 4
      · obtain ⟨b, off, rfl, hbk, hcx⟩ := (Ints.at_ (HI.out) (k := k) (by have := HN.out; omega))
        obtain ⟨b', off', rfl, hbk', hcy⟩ := (Ints.at_ (HJ.out) (k := k) (by have := HM.out; omega))
        have hcx := Below.keeps hB hcx
        have hcy := Below.keeps hB hcy
        have ex := Lib.hid (show xs.getD k 0 = xs[k]'(by have := HN.out; omega) from by rw [List.getD, List.getElem?_eq_getElem (by have := HN.out; omega)]; rfl)
        have ey := Lib.hid (show ys.getD k 0 = ys[k]'(by have := HM.out; omega) from by rw [List.getD, List.getElem?_eq_getElem (by have := HM.out; omega)]; rfl)
        generalize xs[k]'(by have := HN.out; omega) = x at *
        generalize ys[k]'(by have := HM.out; omega) = y at *
        have d0 := c0.out; have d1 := c1.out
        have hlt2 : (k : Int) < 4 := by omega
        have hk0 : (0 : Int) ≤ (k : Int) := by omega
        by_cases hxy : y < x
        · have hst := Lib.hid (aboveTo_hit (xs := xs) (ys := ys) (k := k) (by rw [ex.out, ey.out]; exact hxy))
          have hlen := aboveTo_len xs ys k
          have hd : decide (y < x) = true := decide_eq_true hxy
          go_wp2_with fail
          go_quiet (fail)
          go_wp2_with (at_builtin; refine wpList_append_own _ rfl _ _ 22 rfl (w.heap.size + 2) 3 i0 (.int .i64 0) 1 8 Try.underlying22 hi hz0 hz1 hz2 rfl (by decide) _ _ _ rfl (by exact hown.out.alloc _) ⟨wr.heap.size, 0, none⟩ 1 1 [.int .i64 (k : Int)] rfl rfl ?c1 ?c2 ?c3 ?c4 ?c5 ?_)
          case c1 =>
            intro j u hj
            match j, hj with
            | 0, hj => simp at hj; subst hj; exact (blkcell (heap_alloc_new (wr.drewN nq) (.cells #[.int .i64 (k : Int)] 3))).1 0
          case c2 => intro u hu; simp at hu; subst hu; rfl
          case c3 => unfold maxLen; omega
          case c4 => omega
          case c5 => simp; omega
          intro v' w1 hown' hgrow _
          have hownD := Lib.hid (show (wr.drewN nq).ownsRow (w.heap.size + 2) 3 1 _ _ _ from hown.out)
          have hB1 := below_app (hownD.out.alloc _) hgrow ((below_drewN hB nq).alloc hsz _) (by omega) (by show w.heap.size ≤ ((wr.drewN nq).alloc _).heap.size; simp; omega)
          have e0 := Lib.hid (cell_app (hownD.out.alloc _) hgrow (cell_alloc_ (o := .cells #[.int .i64 (k : Int)] 3) (show (wr.drewN nq).cell? _ = _ from c0.out)) (by show w.heap.size < w.heap.size + 2; omega))
          have e1 := Lib.hid (cell_app (hownD.out.alloc _) hgrow (cell_alloc_ (o := .cells #[.int .i64 (k : Int)] 3) (show (wr.drewN nq).cell? _ = _ from c1.out)) (by show w.heap.size + 1 < w.heap.size + 2; omega))
          have hl3 : w.heap.size + 2 ≤ w1.heap.size := Nat.le_trans hl2 (Nat.le_trans (by simp) hgrow.size)
          have hown2 := Lib.hid hown'
          clear hown' hgrow
          go_wp2
          refine ⟨⟨k + 1, by omega, by go_num, ?_, e0, e1, hB1, hl3⟩, by simp [intOf]; omega⟩
          refine Lib.hid ?_
          rw [hst.out, List.length_append, List.map_append]
          exact hown2.out
        · have hst := Lib.hid (aboveTo_miss (xs := xs) (ys := ys) (k := k) (by rw [ex.out, ey.out]; exact hxy))
          have hd : decide (y < x) = false := decide_eq_false hxy
          go_wp2_with fail
          go_quiet (fail)
          go_wp2
          exact ⟨⟨k + 1, by omega, by go_num, Lib.hid (by rw [hst.out]; exact hown.out), Lib.hid c0.out, Lib.hid c1.out, below_drewN hB _, by simpa using hl2⟩, by simp [intOf]; omega⟩
      · obtain rfl : k = 4 := by omega
        obtain ⟨AA, cc, rfl, hOw⟩ := own_of_row hown.out
        have HO := Lib.hid (hOw.more (show w.heap.size ≤ w.heap.size + 2 by omega))
        clear hOw hown
        go_wp2
        go_ret
        exact ⟨AA, cc, by rw [hr.out]; rfl, by rw [hr.out]; exact HO.out, hB⟩

end Go.Proofs.Ytkcchceoljlnaaa
