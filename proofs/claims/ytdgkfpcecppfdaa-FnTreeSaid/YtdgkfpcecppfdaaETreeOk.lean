/- Contracts of the program's looks at a tree. -/
import Derived.Test.YtdgkfpcecppfdaaETree
import Derived.Test.YtdgkfpcecppfdaaAmt2
namespace Go.Proofs.Ytdgkfpcecppfdaa
set_option linter.unusedSimpArgs false
set_option linter.unusedVariables false
open Go.RowKit
attribute [local go_sem ↓] Go.wp_at_zero Go.wp_at_succ

set_option maxHeartbeats 1600000 in
theorem isLive_any (A : Option Addr) (c : Nat) (t : List El) (i : Int) (w : World) (hx : Els w A t) (hn : t.length = 5) :
    Calls Try.prog 54 #[.slice A 5 c, .int .i64 i] w fun e w' => e = .returned (.bool (liveAt t i)) ∧ w = w' := by
  cases hin : inB i 0 4
  · have hr := Lib.hid (show liveAt t i = false by simp [liveAt, hin])
    clear hx hn
    go_enter Try.func54, Try.ntmps54
    go_wp2_with (go_at_call 66; refine (isPlace_any _ _).mono ?_; rintro e w' ⟨rfl, rfl⟩; rw [hin])
    go_ret
    exact ⟨by rw [hr.out]; rfl, rfl⟩
  · have hb := inB_true hin
    obtain ⟨q, rfl⟩ := Int.eq_ofNat_of_zero_le hb.1
    have ex := Lib.hid (List.getElem?_eq_getElem (l := t) (i := q) (by omega))
    generalize t[q]'(by omega) = x at *
    have hr := Lib.hid (liveAt_nat ex.out (by omega))
    obtain ⟨b, off, rfl, hbx, c0, c1, c2, c3, c4⟩ := hx.at_ ex.out
    have HX := Lib.hid hx
    clear hx hn
    have hq0 : (0 : Int) ≤ (q : Int) := by omega
    have hq5 : (q : Int) < 5 := by omega
    go_enter Try.func54, Try.ntmps54
    go_wp2_with (go_at_call 66; refine (isPlace_any _ _).mono ?_; rintro e w' ⟨rfl, rfl⟩; rw [hin])
    go_ret
    exact ⟨by rw [hr.out]; rfl, rfl⟩
set_option maxHeartbeats 1600000 in
theorem leadsUp_any (A : Option Addr) (c : Nat) (t : List El) (i : Int) (w : World) (hx : Els w A t) (hn : t.length = 5) :
    Calls Try.prog 51 #[.slice A 5 c, .int .i64 i] w fun e w' => e = .returned (.bool (upI t 5 i)) ∧ w = w' := by
  have C := Lib.hid (fun j => isLive_any A c t j w hx hn)
  have HX := Lib.hid hx; have HN := Lib.hid hn
  clear hx hn
  go_enter Try.func51, Try.ntmps51
  go_wp2
  go_loop [1, 5] (fun v k => ∃ (j : Nat) (z : Int), j ≤ 5 ∧ k = .int .i64 j ∧ v = .int .i64 z ∧ Hid (upI t (5 - j) z = upI t 5 i)) (fun _ k => 5 - (intOf k).toNat)
  case atStart => exact ⟨0, i, Nat.zero_le _, rfl, rfl, rfl⟩
  case round =>
    obtain ⟨j, z, hj, rfl, rfl, hu⟩ := hrel
    by_cases hlt : j < 5
    · have hlt2 : (j : Int) < 5 := by omega
      have hun := Lib.hid (show upI t (5 - j) z = if z = 0 then true else if liveAt t z then upI t (5 - (j + 1)) (parAt t z) else false by
        rw [show 5 - j = (5 - (j + 1)) + 1 by omega, upI])
      by_cases hz : z = 0
      · subst hz
        have hr := Lib.hid (show upI t 5 i = true by rw [← hu.out, hun.out]; simp)
        go_wp2
        go_ret
        exact ⟨by rw [hr.out]; rfl, rfl⟩
      · have hz2 : (z == 0) = false := by simpa using hz
        cases hla : liveAt t z
        · have hr := Lib.hid (show upI t 5 i = false by rw [← hu.out, hun.out, if_neg hz, hla]; simp)
          have hz3 := Lib.hid hz
          clear hz
          go_wp2_with (go_at_call 54; refine (C.out _).mono ?_; rintro e w' ⟨rfl, rfl⟩; rw [hla])
          go_ret
          exact ⟨by rw [hr.out]; rfl, rfl⟩
        · obtain ⟨q, x, rfl, hq, hxq, hxl⟩ := liveAt_range hla
          have hs := Lib.hid (show upI t (5 - (j + 1)) x.2.1 = upI t 5 i by rw [← hu.out, hun.out, if_neg hz, hla, if_pos rfl, parAt_nat hxq])
          obtain ⟨b, off, rfl, hbx, c0, c1, c2, c3, c4⟩ := HX.out.at_ hxq
          have hq0 : (0 : Int) ≤ (q : Int) := by omega
          have hq5 : (q : Int) < 5 := by omega
          have hz3 := Lib.hid hz; have hxq2 := Lib.hid hxq; have hxl2 := Lib.hid hxl
          clear hz hxq hxl
          go_wp2_with (go_at_call 54; refine (C.out _).mono ?_; rintro e w' ⟨rfl, rfl⟩; rw [hla])
          exact ⟨⟨j + 1, x.2.1, by omega, by go_num, rfl, hs⟩, by simp [intOf]; omega⟩
    · obtain rfl : j = 5 := by omega
      have hr := Lib.hid (show upI t 5 i = false by rw [← hu.out]; rfl)
      go_wp2
      go_ret
      exact ⟨by rw [hr.out]; rfl, rfl⟩

theorem sumL_snoc {t : List El} {k : Nat} {x : El} (h : t[k]? = some x) : sumL (t.take (k + 1)) = if x.1 then add3 (sumL (t.take k)) x else sumL (t.take k) := by
  rw [List.take_add_one, h, sumL, List.foldl_append]; rfl
theorem goodTo_snoc {t : List El} {f : List El → Nat → El → Bool} {k : Nat} {x : El} (h : goodTo t f k) (hx : t[k]? = some x) (hf : f t k x = true) : goodTo t f (k + 1) := by
  intro j y hj hy
  by_cases hjk : j = k
  · subst hjk; rw [hx] at hy; cases hy; exact hf
  · exact h j y (by omega) hy
theorem not_right {t : List El} {k : Nat} {x : El} (hk : k < 5) (hx : t[k]? = some x) (hf : goodI t k x = false) : ¬ Right t := fun h => by
  rw [h.good k x hk hx] at hf; cases hf
theorem b_false {b : Bool} {p : Prop} (hb : b = true ↔ p) (h : ¬ p) : b = false := by
  cases b
  · rfl
  · exact absurd (hb.1 rfl) h
set_option maxHeartbeats 6400000 in
theorem implTreeOk_five (A : Option Addr) (c : Nat) (t : List El) (b : Bool) (w : World) (hx : Els w A t) (hn : t.length = 5) (hb : b = true ↔ Right t) (r0 : El) (hr0 : t[0]? = some r0) (hl0 : r0.1 = true) (hp0 : r0.2.1 = -1) :
    Calls Try.prog 22 #[.slice A 5 c] w fun e w' => e = .returned (.bool b) ∧ Below w.heap.size w w' := by
  have HX := Lib.hid hx; have HN := Lib.hid hn; have HB := Lib.hid hb; have HR := Lib.hid hr0; have HL0 := Lib.hid hl0; have HP0 := Lib.hid hp0
  obtain ⟨bl, off, rfl, hbx, c0, c1, c2, c3, c4⟩ := hx.at_ hr0
  rw [hl0] at c0
  rw [hp0] at c1
  simp only [Nat.zero_mul, Nat.add_zero] at c0 c1
  clear hx hn hb hr0 hl0 hp0
  go_enter Try.func22, Try.ntmps22
  go_wp2
  clear c0 c1 c2 c3 c4
  go_loopw [26] (fun i wr => ∃ (k : Nat) (s1 s2 s3 : Int), k ≤ 5 ∧ i = .int .i64 k ∧ Hid (goodTo t goodI k) ∧ Hid (sumL (t.take k) = (s1, s2, s3)) ∧ Hid ((0 ≤ s1 ∧ s1 ≤ k * 1000000) ∧ (0 ≤ s2 ∧ s2 ≤ k * 1000000) ∧ (0 ≤ s3 ∧ s3 ≤ k * 1000000)) ∧
    Hid (wr.heap[w.heap.size]? = some (.cells #[.int .i64 s1, .int .i64 s2, .int .i64 s3] 27 (0, 0))) ∧ Below w.heap.size w wr ∧ w.heap.size < wr.heap.size) (fun i _ => 5 - (intOf i).toNat)
  case atStart => exact ⟨0, 0, 0, 0, Nat.zero_le _, rfl, fun j x hj => by omega, rfl, ⟨⟨by omega, by omega⟩, ⟨by omega, by omega⟩, by omega, by omega⟩, heap_alloc_new w _, (Below.refl _ _).alloc (Nat.le_refl _) _, by simp⟩
  case round =>
    obtain ⟨k, s1, s2, s3, hk, rfl, hgood, hsum, hbd, hbox, hB, hlt0⟩ := hrel
    have hsz := hB.size
    by_cases hlt : k < 5
    · have ex := Lib.hid (List.getElem?_eq_getElem (l := t) (i := k) (by have := HN.out; omega))
      generalize t[k]'(by have := HN.out; omega) = x at *
      obtain ⟨b', off', hA, hbx', c0, c1, c2, c3, c4⟩ := HX.out.at_ ex.out
      have hA2 := Lib.hid hA
      injection hA with hA
      injection hA with hA hO
      subst hA; subst hO
      clear hbx'
      have c0 := Below.keeps hB c0; have c1 := Below.keeps hB c1; have c2 := Below.keeps hB c2; have c3 := Below.keeps hB c3; have c4 := Below.keeps hB c4
      have hlt2 : (k : Int) < 5 := by omega
      have hk0 : (0 : Int) ≤ (k : Int) := by omega
      cases hl : x.1
      · by_cases hz : x = zEl
        · have hgs := Lib.hid (goodTo_snoc hgood.out ex.out (by unfold goodI; rw [hl, hz]; simp))
          have hss := Lib.hid (show sumL (t.take (k + 1)) = (s1, s2, s3) by rw [sumL_snoc ex.out, hl, hsum.out]; rfl)
          subst hz
          have hbox2 := Lib.hid (blk_alloc (O := .cells #[.bool false, .int .i64 0, .int .i64 0, .int .i64 0, .int .i64 0] 56) hbox.out)
          have hbd2 := Lib.hid (show (0 ≤ s1 ∧ s1 ≤ ((k + 1 : Nat) : Int) * 1000000) ∧ (0 ≤ s2 ∧ s2 ≤ ((k + 1 : Nat) : Int) * 1000000) ∧ (0 ≤ s3 ∧ s3 ≤ ((k + 1 : Nat) : Int) * 1000000) by have := hbd.out; omega)
          unfold zEl at c0 c1 c2 c3 c4
          clear hl
          go_wp2
          exact ⟨⟨k + 1, s1, s2, s3, by omega, by go_num, hgs, hss, hbd2, hbox2, hB.alloc hsz _, by simp; omega⟩, by simp [intOf]; omega⟩
        · have hr := Lib.hid (b_false HB.out (not_right hlt ex.out (by simp [goodI, hl, hz])))
          rw [hl] at c0
          have hz2 := Lib.hid hz; have hl2 := Lib.hid hl
          clear hz hl
          go_wp2
          all_goals first
            | (go_ret; exact ⟨by rw [hr.out]; rfl, hB.alloc hsz _⟩)
            | (exfalso; have h1 := hl2.out; have h2 := hz2.out; apply h2; obtain ⟨l, q, p, r, c⟩ := x; simp_all [zEl])
      · rw [hl] at c0
        have hr1 : balOk x = false → b = false := fun h => b_false HB.out (not_right hlt ex.out (by simp [goodI, hl, h]))
        have hr2 : upI t 5 k = false → b = false := fun h => b_false HB.out (not_right hlt ex.out (by simp [goodI, hl, h]))
        cases hbal : amtB x.2.2.1 x.2.2.2.1 x.2.2.2.2
        · have hr := Lib.hid (hr1 hbal)
          clear hr1 hr2 hl
          go_wp2_with fail
          refine (implAmtOk_any _ _ _ _).mono ?_
          rintro e w2 ⟨rfl, hb⟩
          rw [hbal]
          have hB2 := (hB.alloc hsz _).trans (hb.mono (by simp; omega))
          clear hb
          go_wp2
          go_ret
          exact ⟨by rw [hr.out]; rfl, hB2⟩
        · obtain ⟨⟨a1, a2⟩, ⟨a3, a4⟩, a5, a6⟩ := amtB_true hbal
          go_wp2_with fail
          refine (implAmtOk_any _ _ _ _).mono ?_
          rintro e w2 ⟨rfl, hb⟩
          rw [hbal]
          have hrb := keepblk hb (heap_alloc_new wr _)
          have hbox2 := keepblk hb (blk_alloc hbox.out)
          have hB2 := (hB.alloc hsz _).trans (hb.mono (by simp; omega))
          have hs2 := hb.size
          simp only [World.size_alloc] at hs2
          clear hb
          cases hup : upI t 5 k
          · have hr := Lib.hid (hr2 hup)
            clear hr1 hr2 hl hrb hbox2
            go_wp2_with fail
            refine (leadsUp_any _ c t k _ (HX.out.keep (fun _ _ h => Below.keeps hB2 h)) HN.out).mono ?_
            rintro e _ ⟨rfl, rfl⟩
            rw [hup]
            go_wp2
            go_ret
            exact ⟨by rw [hr.out]; rfl, hB2⟩
          · have hgs := Lib.hid (goodTo_snoc hgood.out ex.out (by simp [goodI, hl, hup, balOk, hbal]))
            have hss := Lib.hid (show sumL (t.take (k + 1)) = (s1 + x.2.2.1, s2 + x.2.2.2.1, s3 + x.2.2.2.2) by rw [sumL_snoc ex.out, hl, hsum.out]; rfl)
            obtain ⟨⟨d1, d2⟩, ⟨d3, d4⟩, d5, d6⟩ := hbd.out
            have hbd2 := Lib.hid (show (0 ≤ s1 + x.2.2.1 ∧ s1 + x.2.2.1 ≤ ((k + 1 : Nat) : Int) * 1000000) ∧ (0 ≤ s2 + x.2.2.2.1 ∧ s2 + x.2.2.2.1 ≤ ((k + 1 : Nat) : Int) * 1000000) ∧ (0 ≤ s3 + x.2.2.2.2 ∧ s3 + x.2.2.2.2 ≤ ((k + 1 : Nat) : Int) * 1000000) by omega)
            clear hr1 hr2 hl
            obtain ⟨kr, fr⟩ := blkcell hrb
            obtain ⟨kb, fb⟩ := blkcell hbox2
            have hrb2 := Lib.hid hrb; have hbox3 := Lib.hid hbox2
            clear hrb hbox2
            go_wp2_with fail
            refine (leadsUp_any _ c t k _ (HX.out.keep (fun _ _ h => Below.keeps hB2 h)) HN.out).mono ?_
            rintro e _ ⟨rfl, rfl⟩
            rw [hup]
            go_wp2_with fail
            refine (sumOf_any _ _ _ _ _ _ _ (by omega) (by omega) (by omega) (by omega) (by omega) (by omega) (by omega) (by omega) (by omega) (by omega) (by omega) (by omega)).mono ?_
            rintro e w3 ⟨rfl, hb⟩
            have hbox4 := keepblk hb hbox3.out
            have hB3 := hB2.trans (hb.mono hB2.size)
            have hs3 := hb.size
            clear hb kr fr kb fb
            obtain ⟨kb, fb⟩ := blkcell hbox4
            have hnew := Lib.hid (blk_set (i := 2) (blk_set (i := 1) (blk_set (i := 0) hbox4 (.int .i64 (s1 + x.2.2.1))) (.int .i64 (s2 + x.2.2.2.1))) (.int .i64 (s3 + x.2.2.2.2)))
            have hBn := Lib.hid (below_set (b := w.heap.size) (o := 2) (below_set (b := w.heap.size) (o := 1) (below_set (b := w.heap.size) (o := 0) hB3 (Nat.le_refl _) (.int .i64 (s1 + x.2.2.1))) (Nat.le_refl _) (.int .i64 (s2 + x.2.2.2.1))) (Nat.le_refl _) (.int .i64 (s3 + x.2.2.2.2)))
            clear hbox4
            go_wp2
            exact ⟨⟨k + 1, _, _, _, by omega, by go_num, hgs, hss, hbd2, hnew, hBn.out, by simp; omega⟩, by simp [intOf]; omega⟩
    · obtain rfl : k = 5 := by omega
      obtain ⟨kb, fb⟩ := blkcell hbox.out
      have hsum5 : sumL t = (s1, s2, s3) := by have := hsum.out; rwa [List.take_of_length_le (by have := HN.out; omega)] at this
      have hr := Lib.hid (show b = amtB s1 s2 s3 by
        rw [Bool.eq_iff_iff, HB.out]
        constructor
        · intro h; have := h.sum; rwa [hsum5] at this
        · intro h; exact ⟨HN.out, ⟨r0, HR.out, HL0.out, HP0.out⟩, hgood.out, by rw [hsum5]; exact h⟩)
      clear hsum5
      go_wp2_with fail
      refine (implAmtOk_any _ _ _ _).mono ?_
      rintro e w2 ⟨rfl, hb⟩
      have hB2 := hB.trans (hb.mono hsz)
      clear hb kb fb
      go_wp2
      go_ret
      exact ⟨by rw [hr.out]; rfl, hB2⟩

set_option maxHeartbeats 3200000 in
theorem implTreeOk_any (A : Option Addr) (n c : Nat) (t : List El) (b : Bool) (w : World) (hx : Els w A t) (hn : t.length = n) (hnb : n ≤ 1099511627776) (hb : b = true ↔ Right t) :
    Calls Try.prog 22 #[.slice A n c] w fun e w' => e = .returned (.bool b) ∧ Below w.heap.size w w' := by
  by_cases h5 : n = 5
  · subst h5
    have hr0 : t[0]? = some (t[0]'(by omega)) := List.getElem?_eq_getElem (by omega)
    generalize t[0]'(by omega) = r0 at *
    cases hl0 : r0.1
    · have hr := Lib.hid (b_false hb fun h => by
        obtain ⟨x, h1, h2, _⟩ := h.root
        rw [hr0] at h1; cases h1; rw [hl0] at h2; cases h2)
      obtain ⟨bl, off, rfl, hbx, c0, c1, c2, c3, c4⟩ := hx.at_ hr0
      rw [hl0] at c0
      simp only [Nat.zero_mul, Nat.add_zero] at c0
      clear hx hn hb hr0 hl0 c1 c2 c3 c4
      go_enter Try.func22, Try.ntmps22
      go_wp2
      go_ret
      exact ⟨by rw [hr.out]; rfl, Below.refl _ _⟩
    · by_cases hp : r0.2.1 = -1
      · exact implTreeOk_five A c t b w hx hn hb r0 hr0 hl0 hp
      · have hr := Lib.hid (b_false hb fun h => by
          obtain ⟨x, h1, _, h2⟩ := h.root
          rw [hr0] at h1; cases h1; exact hp h2)
        have hp2 : (r0.2.1 != -1) = true := by simpa using hp
        obtain ⟨bl, off, rfl, hbx, c0, c1, c2, c3, c4⟩ := hx.at_ hr0
        rw [hl0] at c0
        simp only [Nat.zero_mul, Nat.add_zero] at c0 c1
        clear hx hn hb hr0 hl0 c2 c3 c4 hp
        go_enter Try.func22, Try.ntmps22
        go_wp2
        go_ret
        exact ⟨by rw [hr.out]; rfl, Below.refl _ _⟩
  · have h1 : ((n : Int) != 5) = true := by simp; omega
    have hr := Lib.hid (b_false hb fun h => h5 (by rw [← hn]; exact h.len))
    clear hx hn hb
    go_enter Try.func22, Try.ntmps22
    go_wp2
    go_ret
    exact ⟨by rw [hr.out]; rfl, Below.refl _ _⟩

end Go.Proofs.Ytdgkfpcecppfdaa
