/- Contracts of the draws of labels. -/
import Derived.Test.YtkcchceoljlnaaaDoorDrawLabB
namespace Go.Proofs.YtkcchceoljlnaaaDoor
set_option linter.unusedSimpArgs false
set_option linter.unusedVariables false
open Go.RowKit
attribute [local go_sem ↓] Go.wp_at_zero Go.wp_at_succ

theorem OwnL.gr_ {w w' : World} {lo hi g : Nat} {A : Option Addr} {xs : List Int} (h : OwnL w lo hi A xs) (hg : w.grownBy w' (some g)) (hgl : g < lo ∨ hi ≤ g) : OwnL w' lo hi A xs := by
  rcases h with rfl | ⟨q, full, rfl, h1, h2, hh, hp⟩
  · exact .inl rfl
  · exact .inr ⟨q, full, rfl, h1, h2, blk_gr hg hh (by omega), hp⟩
theorem OwnL.setBox_ {w : World} {lo hi : Nat} {A : Option Addr} {xs : List Int} (h : OwnL w lo hi A xs) {p : Addr} (hp : p.block < lo ∨ hi ≤ p.block) (u : Value) : OwnL (w.setCell p u) lo hi A xs := by
  rcases h with rfl | ⟨q, full, rfl, h1, h2, hh, h3⟩
  · exact .inl rfl
  · exact .inr ⟨q, full, rfl, h1, h2, blk_far hh (by omega) u, h3⟩
theorem OwnL.more_ {w : World} {lo hi lo' hi' : Nat} {A : Option Addr} {xs : List Int} (h : OwnL w lo hi A xs) (h1 : lo' ≤ lo) (h2 : hi ≤ hi') : OwnL w lo' hi' A xs := by
  rcases h with rfl | ⟨q, full, rfl, h3, h4, hh, h5⟩
  · exact .inl rfl
  · exact .inr ⟨q, full, rfl, by omega, by omega, hh, h5⟩
def DrT (W : World) (g : Nat) (A : Option Addr) (n c : Nat) (w : World) (e : Ending) (w' : World) : Prop :=
  ∃ (A1 : Option Addr) (c1 : Nat) (xs : List Int) (A2 : Option Addr) (c2 : Nat) (ys : List Int), e = .returned (.tuple #[lab A1 xs.length c1, lab A2 ys.length c2]) ∧ xs.length ≤ 5 ∧ ys.length ≤ 5 ∧ OwnL w' w.heap.size w'.heap.size A1 xs ∧ OwnL w' w.heap.size w'.heap.size A2 ys ∧ Dr W g A n c w' ∧ w.grownBy w' (some g)
set_option maxHeartbeats 12800000 in
theorem l3Two_any (W : World) (g : Nat) (A : Option Addr) (n c : Nat) (w : World) (hA : Bys W A n) (hn : n ≤ 1048576) (hd : Dr W g A n c w) :
    Calls Tryd.prog 28 #[.pointer (some ⟨g, 0, none⟩)] w (DrT W g A n c w) := by
  have D := Lib.hid (fun m w' h h1 h2 => l1Below_any W g A n c m w' hA hn h1 h2 h)
  have O := Lib.hid (fun m w' h h1 h2 => l1Once_any W g A n c m w' hA hn h1 h2 h)
  have F := Lib.hid (fun w' h => l3Any_any W g A n c w' hA hn h)
  have hgl := hd.lt
  have hWw := hd.below.size
  have HD := Lib.hid ((hd.al (.cells #[.slice none 0 0] 27)).al (.cells #[.slice none 0 0] 27))
  have hbx := heap_alloc_new (w.alloc (.cells #[.slice none 0 0] 27)) (.cells #[.slice none 0 0] 27)
  rw [World.size_alloc] at hbx
  have hbx := Lib.hid hbx
  clear hA hd
  go_enter Tryd.func28, Tryd.ntmps28
  go_wp2_with fail
  refine (F.out _ HD.out).mono ?_
  rintro e w2 ⟨A1, c1, xs, rfl, hl5, hxs, hown, hd2, hg2⟩
  have hxs := Lib.hid hxs
  obtain ⟨n1, hlen⟩ : ∃ n1, xs.length = n1 := ⟨_, rfl⟩
  rw [hlen] at hl5 ⊢
  simp only [World.size_alloc] at hown
  have hs2 := hg2.size
  simp only [World.size_alloc] at hs2
  have hoa := Lib.hid (OwnL.alloc (OwnL.of_own hown) (.cells #[.slice A1 n1 c1] 27))
  have r0 := Lib.hid (blk_alloc (O := .cells #[.slice A1 n1 c1] 27) (blk_gr hg2 (blk_alloc (heap_alloc_new w _)) (by omega)))
  have r1 := Lib.hid (blk_alloc (O := .cells #[.slice A1 n1 c1] 27) (blk_gr hg2 hbx.out (by omega)))
  have r4 := Lib.hid (heap_alloc_new w2 (.cells #[.slice A1 n1 c1] 27))
  have H2 := Lib.hid (hd2.al (.cells #[.slice A1 n1 c1] 27))
  have G2 := Lib.hid (gr_alloc (gr_trans (gr_alloc (gr_alloc (gr_refl w (some g)) _) _) hg2) (.cells #[.slice A1 n1 c1] 27))
  clear hd2 hg2 hown
  go_wp2_with fail
  refine (O.out 2 _ H2.out (by omega) (by omega)).mono ?_
  rintro e w3 ⟨l, rfl, hD3, hg3⟩
  have H3 := Lib.hid hD3; have G3 := Lib.hid (gr_trans G2.out hg3); have hoa := Lib.hid (hoa.out.gr_ hg3 (by omega))
  have r0 := Lib.hid (blk_gr hg3 r0.out (by omega)); have r1 := Lib.hid (blk_gr hg3 r1.out (by omega)); have r4 := Lib.hid (blk_gr hg3 r4.out (by omega))
  have hs3 := hg3.size
  simp only [World.size_alloc] at hs3
  clear hD3 hg3
  have q0 : w.heap.size < w3.heap.size := by omega
  have q1 : w.heap.size + 1 < w3.heap.size := by omega
  have q2 : w2.heap.size < w3.heap.size := by omega
  obtain ⟨k0, f0⟩ := blkcell r0.out
  obtain ⟨k1, f1⟩ := blkcell r1.out
  obtain ⟨k4, f4⟩ := blkcell r4.out
  cases l
  · go_upto_region 8 with (fail)
    go_region_with (go_at_call 35; refine (F.out _ (by exact H3.out.bel ((Below.refl _ _).drew))).mono ?_; rintro e w9 ⟨A2, c2, ys, rfl, hl2, hy2, ho2, hD, hg⟩; have r0 := Lib.hid (blk_gr hg (show w3.drew.heap[_]? = _ from r0.out) (by omega)); have r1 := Lib.hid (blk_gr hg (show w3.drew.heap[_]? = _ from r1.out) (by omega)); have r4 := Lib.hid (blk_gr hg (show w3.drew.heap[_]? = _ from r4.out) (by omega)); have hoa := Lib.hid ((show OwnL w3.drew _ _ A1 xs from hoa.out).gr_ hg (by omega)); have H3 := Lib.hid hD; have G3 := Lib.hid (gr_trans (gr_drewN G3.out 1) hg); have hs9 : w3.heap.size ≤ w9.heap.size := hg.size; have hob := Lib.hid (show OwnL w9 w3.heap.size w9.heap.size A2 ys from OwnL.of_own ho2); clear hD hg ho2; obtain ⟨k4', f4'⟩ := blkcell r4.out; obtain ⟨k0', f0'⟩ := blkcell r0.out; obtain ⟨k1', f1'⟩ := blkcell r1.out; have q0' : w.heap.size < w9.heap.size := (by omega); have q1' : w.heap.size + 1 < w9.heap.size := (by omega); have q2' : w2.heap.size < w9.heap.size := (by omega))
    all_goals
      clear k0 k1 k4 f0 f1 f4
      have FA := Lib.hid (((show OwnL w9 _ _ A1 xs from hoa.out).setBox_ (p := ⟨w.heap.size, 0, none⟩) (.inl (by show w.heap.size < _; omega)) (.slice A1 n1 c1)).setBox_ (p := ⟨w.heap.size + 1, 0, none⟩) (.inl (by show w.heap.size + 1 < _; omega)) (.slice (A2) (ys.length) c2))
      have FB := Lib.hid (((show OwnL w9 _ _ (A2) (ys) from hob.out).setBox_ (p := ⟨w.heap.size, 0, none⟩) (.inl (by show w.heap.size < _; omega)) (.slice A1 n1 c1)).setBox_ (p := ⟨w.heap.size + 1, 0, none⟩) (.inl (by show w.heap.size + 1 < _; omega)) (.slice (A2) (ys.length) c2))
      have FD := Lib.hid (((H3.out).set_ (b := w.heap.size) (by omega) (by omega) 0 (.slice A1 n1 c1)).set_ (b := w.heap.size + 1) (by omega) (by omega) 0 (.slice (A2) (ys.length) c2))
      have FG := Lib.hid (gr_setF (gr_setF (G3.out) (p := ⟨w.heap.size, 0, none⟩) (by show w.heap.size ≤ w.heap.size; omega) (.slice A1 n1 c1)) (p := ⟨w.heap.size + 1, 0, none⟩) (by show w.heap.size ≤ w.heap.size + 1; omega) (.slice (A2) (ys.length) c2))
      go_wp2
      refine bodyPost_ret (v := .tuple #[lab A1 n1 c1, lab (A2) (ys.length) c2]) (by simp [results, Tryd.results28, go_sem, *]) rfl ?_
      exact ⟨A1, c1, xs, A2, c2, ys, by simp only [hlen], by omega, hl2, FA.out.more_ (by omega) (by simp; omega), FB.out.more_ (by omega) (by simp <;> omega), FD.out, FG.out⟩
  · obtain ⟨A5, c5, w5, hrun, ho5, hB5⟩ := copy_runI w3 A1 n1 c1 xs hoa.out.ints hlen (by omega)
    have HR := Lib.hid hrun
    clear hrun
    have hs5 := hB5.size
    have r0 := Lib.hid (blk_alloc (O := .cells #[.slice A5 n1 c5] 27) (keepblk hB5 r0.out)); have r1 := Lib.hid (blk_alloc (O := .cells #[.slice A5 n1 c5] 27) (keepblk hB5 r1.out)); have r4 := Lib.hid (blk_alloc (O := .cells #[.slice A5 n1 c5] 27) (keepblk hB5 r4.out))
    have r5 := Lib.hid (heap_alloc_new w5 (.cells #[.slice A5 n1 c5] 27))
    have hoa := Lib.hid ((hoa.out.below hB5).alloc (.cells #[.slice A5 n1 c5] 27))
    have hob := Lib.hid ((OwnL.of_own ho5).alloc (.cells #[.slice A5 n1 c5] 27))
    have k4w := Below.keeps hB5 ((k4 0).trans rfl)
    have H5 := Lib.hid ((H3.out.bel hB5).al (.cells #[.slice A5 n1 c5] 27))
    have G5 := Lib.hid (gr_alloc (gr_trans G3.out (gr_below hB5 _)) (.cells #[.slice A5 n1 c5] 27))
    clear ho5 hB5
    by_cases hz : n1 = 0
    · subst hz
      have hzd : decide ((0 : Int) < ((0 : Nat) : Int)) = false := by decide
      go_wp2_with (at_builtin; refine wpList_append_eq rfl _ _ _ rfl _ _ _ _ (by rfl) (by rfl) HR.out ?_)
      clear k0 k1 k4 f0 f1 f4
      obtain ⟨k0, f0⟩ := blkcell r0.out
      obtain ⟨k1, f1⟩ := blkcell r1.out
      obtain ⟨k4, f4⟩ := blkcell r4.out
      obtain ⟨k5, f5⟩ := blkcell r5.out
      obtain ⟨X, hX⟩ : ∃ X, X = w5.alloc (.cells #[.slice A5 0 c5] 27) := ⟨_, rfl⟩
      have hsX : X.heap.size = w5.heap.size + 1 := by rw [hX]; simp
      rw [← hX] at k0 k1 k4 k5 f0 f1 f4 f5 hoa hob H5 G5 r0 r1 r4 r5 ⊢
      clear hX
      have q0 : w.heap.size < X.heap.size := by omega
      have q1 : w.heap.size + 1 < X.heap.size := by omega
      have q2 : w2.heap.size < X.heap.size := by omega
      have q5 : w5.heap.size < X.heap.size := by omega
      go_region_with (fail)
      all_goals
        skip
        have FA := Lib.hid (((show OwnL X _ _ A1 xs from hoa.out).setBox_ (p := ⟨w.heap.size, 0, none⟩) (.inl (by show w.heap.size < _; omega)) (.slice A1 0 c1)).setBox_ (p := ⟨w.heap.size + 1, 0, none⟩) (.inl (by show w.heap.size + 1 < _; omega)) (.slice (A5) (0) c5))
        have FB := Lib.hid (((show OwnL X _ _ (A5) (xs) from hob.out).setBox_ (p := ⟨w.heap.size, 0, none⟩) (.inl (by show w.heap.size < _; omega)) (.slice A1 0 c1)).setBox_ (p := ⟨w.heap.size + 1, 0, none⟩) (.inl (by show w.heap.size + 1 < _; omega)) (.slice (A5) (0) c5))
        have FD := Lib.hid (((H5.out).set_ (b := w.heap.size) (by omega) (by omega) 0 (.slice A1 0 c1)).set_ (b := w.heap.size + 1) (by omega) (by omega) 0 (.slice (A5) (0) c5))
        have FG := Lib.hid (gr_setF (gr_setF (G5.out) (p := ⟨w.heap.size, 0, none⟩) (by show w.heap.size ≤ w.heap.size; omega) (.slice A1 0 c1)) (p := ⟨w.heap.size + 1, 0, none⟩) (by show w.heap.size ≤ w.heap.size + 1; omega) (.slice (A5) (0) c5))
        go_wp2
        refine bodyPost_ret (v := .tuple #[lab A1 0 c1, lab (A5) (0) c5]) (by simp [results, Tryd.results28, go_sem, *]) rfl ?_
        exact ⟨A1, c1, xs, A5, c5, xs, by simp only [hlen], by omega, by omega, FA.out.more_ (by omega) (by simp; omega), FB.out.more_ (by omega) (by simp <;> omega), FD.out.bel ((Below.refl _ _).drew), gr_drewN FG.out 1⟩
    · have hzp : (0 : Int) < (n1 : Int) := by omega
      have hzd : decide ((0 : Int) < (n1 : Int)) = true := decide_eq_true hzp
      go_wp2_with (at_builtin; refine wpList_append_eq rfl _ _ _ rfl _ _ _ _ (by rfl) (by rfl) HR.out ?_)
      refine (O.out 2 _ H5.out (by omega) (by omega)).mono ?_
      rintro e w6 ⟨l, rfl, hD6, hg6⟩
      have H6 := Lib.hid hD6; have G6 := Lib.hid (gr_trans G5.out hg6)
      replace r0 := Lib.hid (blk_gr hg6 r0.out (by omega)); replace r1 := Lib.hid (blk_gr hg6 r1.out (by omega)); replace r4 := Lib.hid (blk_gr hg6 r4.out (by omega)); replace r5 := Lib.hid (blk_gr hg6 r5.out (by omega))
      replace hoa := Lib.hid (hoa.out.gr_ hg6 (by omega)); replace hob := Lib.hid (hob.out.gr_ hg6 (by omega))
      have hs6 := hg6.size
      simp only [World.size_alloc] at hs6
      have q0 : w.heap.size < w6.heap.size := by omega
      have q1 : w.heap.size + 1 < w6.heap.size := by omega
      have q2 : w2.heap.size < w6.heap.size := by omega
      have q5 : w5.heap.size < w6.heap.size := by omega
      clear hD6 hg6 k4w
      clear k0 k1 k4 f0 f1 f4
      obtain ⟨k0, f0⟩ := blkcell r0.out
      obtain ⟨k1, f1⟩ := blkcell r1.out
      obtain ⟨k4, f4⟩ := blkcell r4.out
      obtain ⟨k5, f5⟩ := blkcell r5.out
      cases l
      · go_upto_region 7 with (fail)
        go_region_with (fail)
        all_goals
          skip
          have FA := Lib.hid (((show OwnL w6 _ _ A1 xs from hoa.out).setBox_ (p := ⟨w.heap.size, 0, none⟩) (.inl (by show w.heap.size < _; omega)) (.slice A1 n1 c1)).setBox_ (p := ⟨w.heap.size + 1, 0, none⟩) (.inl (by show w.heap.size + 1 < _; omega)) (.slice (A5) (n1) c5))
          have FB := Lib.hid (((show OwnL w6 _ _ (A5) (xs) from hob.out).setBox_ (p := ⟨w.heap.size, 0, none⟩) (.inl (by show w.heap.size < _; omega)) (.slice A1 n1 c1)).setBox_ (p := ⟨w.heap.size + 1, 0, none⟩) (.inl (by show w.heap.size + 1 < _; omega)) (.slice (A5) (n1) c5))
          have FD := Lib.hid (((H6.out).set_ (b := w.heap.size) (by omega) (by omega) 0 (.slice A1 n1 c1)).set_ (b := w.heap.size + 1) (by omega) (by omega) 0 (.slice (A5) (n1) c5))
          have FG := Lib.hid (gr_setF (gr_setF (G6.out) (p := ⟨w.heap.size, 0, none⟩) (by show w.heap.size ≤ w.heap.size; omega) (.slice A1 n1 c1)) (p := ⟨w.heap.size + 1, 0, none⟩) (by show w.heap.size ≤ w.heap.size + 1; omega) (.slice (A5) (n1) c5))
          go_wp2
          refine bodyPost_ret (v := .tuple #[lab A1 n1 c1, lab (A5) (n1) c5]) (by simp [results, Tryd.results28, go_sem, *]) rfl ?_
          exact ⟨A1, c1, xs, A5, c5, xs, by simp only [hlen], by omega, by omega, FA.out.more_ (by omega) (by simp; omega), FB.out.more_ (by omega) (by simp <;> omega), FD.out.bel ((Below.refl _ _).drew), gr_drewN FG.out 1⟩
      · go_wp2_with fail
        refine (D.out (n1 : Int) _ H6.out (by omega) (by omega)).mono ?_
        rintro e w7 ⟨kz, hk0, hk1, rfl, hD7, hg7⟩
        obtain ⟨k, rfl⟩ := Int.eq_ofNat_of_zero_le hk0
        have hkn : k < n1 := by omega
        have H7 := Lib.hid hD7; have G7 := Lib.hid (gr_trans G6.out hg7)
        replace r0 := Lib.hid (blk_gr hg7 r0.out (by omega)); replace r1 := Lib.hid (blk_gr hg7 r1.out (by omega)); replace r4 := Lib.hid (blk_gr hg7 r4.out (by omega)); replace r5 := Lib.hid (blk_gr hg7 r5.out (by omega))
        replace hoa := Lib.hid (hoa.out.gr_ hg7 (by omega)); replace hob := Lib.hid (hob.out.gr_ hg7 (by omega))
        have hs7 := hg7.size
        clear hD7 hg7 k0 k1 k4 k5 f0 f1 f4 f5
        rcases hob.out with h | ⟨gl, full, rfl, hlo, hhi, hh, hp⟩
        · exfalso; subst h; simp at hlen; omega
        have hob := Lib.hid (show OBI w7 gl xs from ⟨full, hh, hp⟩)
        clear hh hp
        have EY := Lib.hid (List.getElem?_eq_getElem (l := xs) (i := k) (by omega))
        have hyb := hxs.out _ (List.getElem_mem (l := xs) (n := k) (by omega))
        generalize xs[k]'(by omega) = y at EY hyb
        go_upto_region 6 with (fail)
        refine wp_region_fr (U := Value × Value × Value × Value × Value × Value × Value × Value × Value × Value × Value × Value × Value × Value) [[], [0], [], [], [3], [], [4, 5], [6], [7], [], [9], [10], [8, 11], [1, 2, 0, 1, 2, 3, 4, 5, 6, 7, 8, 9, 10, 11, 12], [13, 12, 10, 0, 1, 2, 3, 4, 5, 6, 7, 8, 9, 10, 11, 12]] (fun u => match u with | (u29, u30, u31, u32, u33, u34, u35, u36, u37, u38, u39, u40, u41, u42) => [(29, u29), (30, u30), (31, u31), (32, u32), (33, u33), (34, u34), (35, u35), (36, u36), (37, u37), (38, u38), (39, u39), (40, u40), (41, u41), (42, u42)]) (undef, undef, undef, undef, undef, undef, undef, undef, undef, undef, undef, undef, undef, undef) (fun l u x => match u with | (u29, u30, u31, u32, u33, u34, u35, u36, u37, u38, u39, u40, u41, u42) => (x.heap[w.heap.size]? = some (.cells #[.slice none 0 0] 27 (0, 0))) ∧ (x.heap[w.heap.size + 1]? = some (.cells #[.slice none 0 0] 27 (0, 0))) ∧ (x.heap[w2.heap.size]? = some (.cells #[.slice A1 n1 c1] 27 (0, 0))) ∧ (x.heap[w5.heap.size]? = some (.cells #[.slice (some ⟨gl, 0, none⟩) n1 c5] 27 (0, 0))) ∧ (OwnL x (w.heap.size + 1 + 1) w2.heap.size A1 xs) ∧ Hid (l.getD 14 false = false → OBI x gl xs) ∧ (Dr W g A n c x) ∧ (w.grownBy x (some g)) ∧ (w7.heap.size ≤ x.heap.size) ∧ Hid (l.getD 14 false = true → AllOn l [13, 12, 10, 0, 1, 2, 3, 4, 5, 6, 7, 8, 9, 10, 11, 12]) ∧ Hid (l.getD 0 false = true → u29 = .pointer (some ⟨w5.heap.size, 0, none⟩)) ∧ Hid (l.getD 1 false = true → u30 = .slice (some ⟨gl, 0, none⟩) n1 c5) ∧ Hid (l.getD 2 false = true → u31 = .int .i64 (k : Int)) ∧ Hid (l.getD 3 false = true → u32 = .pointer (some ⟨w5.heap.size, 0, none⟩)) ∧ Hid (l.getD 4 false = true → u33 = .slice (some ⟨gl, 0, none⟩) n1 c5) ∧ Hid (l.getD 5 false = true → u34 = .int .i64 (k : Int)) ∧ Hid (l.getD 6 false = true → u35 = .pointer (some ⟨gl, k, none⟩)) ∧ Hid (l.getD 7 false = true → u36 = .int .i64 y) ∧ Hid (l.getD 8 false = true → u37 = .int .i64 (y + 1)) ∧ Hid (l.getD 9 false = true → u38 = .pointer (some ⟨g, 0, none⟩)) ∧ Hid (l.getD 10 false = true → ∃ z : Int, 0 ≤ z ∧ z < 2 ∧ u39 = .int .i64 z) ∧ Hid (l.getD 11 false = true → ∃ z : Int, 0 ≤ z ∧ z < 2 ∧ u40 = .int .i64 (2 * z)) ∧ Hid (l.getD 12 false = true → ∃ t : Int, u41 = .int .i64 t) ∧ Hid (l.getD 13 false = true → u42 = .pointer (some ⟨gl, k, none⟩)) ∧ Hid (l.getD 14 false = true → l.getD 10 false = true ∧ (∃ ys : List Int, ys.length = n1 ∧ OBI x gl ys))) (by kernel_rfl) (by kernel_rfl) ?_ ?_ ?_ ?_
        · kernel_rfl
        · exact ⟨(by exact r0.out), (by exact r1.out), (by exact r4.out), (by exact r5.out), (by exact hoa.out), (fun _ => by exact hob.out), (by exact H7.out.bel ((Below.refl _ _).drew)), (by exact gr_drewN G7.out 1), (Nat.le_refl _), fun h => repl_off h, fun h => repl_off h, fun h => repl_off h, fun h => repl_off h, fun h => repl_off h, fun h => repl_off h, fun h => repl_off h, fun h => repl_off h, fun h => repl_off h, fun h => repl_off h, fun h => repl_off h, fun h => repl_off h, fun h => repl_off h, fun h => repl_off h, fun h => repl_off h, fun h => repl_off h⟩
        · refine ⟨?_, ?_, ?_, ?_, ?_, ?_, ?_, ?_, ?_, ?_, ?_, ?_, ?_, ?_, ?_, trivial⟩
          · refine ⟨rfl, ?_⟩
            rintro l ⟨u29, u30, u31, u32, u33, u34, u35, u36, u37, u38, u39, u40, u41, u42⟩ x ⟨r0, r1, r4, r5, hoa, ho, hd, hG, hsx, HL, g0, g1, g2, g3, g4, g5, g6, g7, g8, g9, g10, g11, g12, g13, g14⟩ hun hpre K hK
            have ho := ho.out (last_off HL (i := 0) (by decide) hun)
            clear hpre
            refine ⟨?_⟩
            simp only [Prod.forall, putAll, List.setIfInBounds_toArray, List.set_cons_zero, List.set_cons_succ] at hK ⊢
            go_simp
            exact hK _ _ _ _ _ _ _ _ _ _ _ _ _ _ _ ⟨r0, r1, r4, r5, hoa, fun _ => ho, hd, hG, hsx, fun h => allOn_keep (HL.out (on_set_other (by decide) h)), fun _ => rfl, fun h => g1.out (on_set_other (by decide) h), fun h => g2.out (on_set_other (by decide) h), fun h => g3.out (on_set_other (by decide) h), fun h => g4.out (on_set_other (by decide) h), fun h => g5.out (on_set_other (by decide) h), fun h => g6.out (on_set_other (by decide) h), fun h => g7.out (on_set_other (by decide) h), fun h => g8.out (on_set_other (by decide) h), fun h => g9.out (on_set_other (by decide) h), fun h => g10.out (on_set_other (by decide) h), fun h => g11.out (on_set_other (by decide) h), fun h => g12.out (on_set_other (by decide) h), fun h => g13.out (on_set_other (by decide) h), fun h => (fun ⟨o10, h2⟩ => ⟨on_keep o10, h2⟩) (g14.out (on_set_other (by decide) h))⟩
          · refine ⟨rfl, ?_⟩
            rintro l ⟨u29, u30, u31, u32, u33, u34, u35, u36, u37, u38, u39, u40, u41, u42⟩ x ⟨r0, r1, r4, r5, hoa, ho, hd, hG, hsx, HL, g0, g1, g2, g3, g4, g5, g6, g7, g8, g9, g10, g11, g12, g13, g14⟩ hun hpre K hK
            have ho := ho.out (last_off HL (i := 1) (by decide) hun)
            obtain ⟨e0, -⟩ := hpre
            obtain rfl := g0.out e0
            refine ⟨?_⟩
            simp only [Prod.forall, putAll, List.setIfInBounds_toArray, List.set_cons_zero, List.set_cons_succ] at hK ⊢
            obtain ⟨kq, fq⟩ := blkcell r5
            go_simp
            exact hK _ _ _ _ _ _ _ _ _ _ _ _ _ _ _ ⟨r0, r1, r4, r5, hoa, fun _ => ho, hd, hG, hsx, fun h => allOn_keep (HL.out (on_set_other (by decide) h)), fun h => g0.out (on_set_other (by decide) h), fun _ => rfl, fun h => g2.out (on_set_other (by decide) h), fun h => g3.out (on_set_other (by decide) h), fun h => g4.out (on_set_other (by decide) h), fun h => g5.out (on_set_other (by decide) h), fun h => g6.out (on_set_other (by decide) h), fun h => g7.out (on_set_other (by decide) h), fun h => g8.out (on_set_other (by decide) h), fun h => g9.out (on_set_other (by decide) h), fun h => g10.out (on_set_other (by decide) h), fun h => g11.out (on_set_other (by decide) h), fun h => g12.out (on_set_other (by decide) h), fun h => g13.out (on_set_other (by decide) h), fun h => (fun ⟨o10, h2⟩ => ⟨on_keep o10, h2⟩) (g14.out (on_set_other (by decide) h))⟩
          · refine ⟨rfl, ?_⟩
            rintro l ⟨u29, u30, u31, u32, u33, u34, u35, u36, u37, u38, u39, u40, u41, u42⟩ x ⟨r0, r1, r4, r5, hoa, ho, hd, hG, hsx, HL, g0, g1, g2, g3, g4, g5, g6, g7, g8, g9, g10, g11, g12, g13, g14⟩ hun hpre K hK
            have ho := ho.out (last_off HL (i := 2) (by decide) hun)
            clear hpre
            refine ⟨?_⟩
            simp only [Prod.forall, putAll, List.setIfInBounds_toArray, List.set_cons_zero, List.set_cons_succ] at hK ⊢
            go_simp
            exact hK _ _ _ _ _ _ _ _ _ _ _ _ _ _ _ ⟨r0, r1, r4, r5, hoa, fun _ => ho, hd, hG, hsx, fun h => allOn_keep (HL.out (on_set_other (by decide) h)), fun h => g0.out (on_set_other (by decide) h), fun h => g1.out (on_set_other (by decide) h), fun _ => rfl, fun h => g3.out (on_set_other (by decide) h), fun h => g4.out (on_set_other (by decide) h), fun h => g5.out (on_set_other (by decide) h), fun h => g6.out (on_set_other (by decide) h), fun h => g7.out (on_set_other (by decide) h), fun h => g8.out (on_set_other (by decide) h), fun h => g9.out (on_set_other (by decide) h), fun h => g10.out (on_set_other (by decide) h), fun h => g11.out (on_set_other (by decide) h), fun h => g12.out (on_set_other (by decide) h), fun h => g13.out (on_set_other (by decide) h), fun h => (fun ⟨o10, h2⟩ => ⟨on_keep o10, h2⟩) (g14.out (on_set_other (by decide) h))⟩
          · refine ⟨rfl, ?_⟩
            rintro l ⟨u29, u30, u31, u32, u33, u34, u35, u36, u37, u38, u39, u40, u41, u42⟩ x ⟨r0, r1, r4, r5, hoa, ho, hd, hG, hsx, HL, g0, g1, g2, g3, g4, g5, g6, g7, g8, g9, g10, g11, g12, g13, g14⟩ hun hpre K hK
            have ho := ho.out (last_off HL (i := 3) (by decide) hun)
            clear hpre
            refine ⟨?_⟩
            simp only [Prod.forall, putAll, List.setIfInBounds_toArray, List.set_cons_zero, List.set_cons_succ] at hK ⊢
            go_simp
            exact hK _ _ _ _ _ _ _ _ _ _ _ _ _ _ _ ⟨r0, r1, r4, r5, hoa, fun _ => ho, hd, hG, hsx, fun h => allOn_keep (HL.out (on_set_other (by decide) h)), fun h => g0.out (on_set_other (by decide) h), fun h => g1.out (on_set_other (by decide) h), fun h => g2.out (on_set_other (by decide) h), fun _ => rfl, fun h => g4.out (on_set_other (by decide) h), fun h => g5.out (on_set_other (by decide) h), fun h => g6.out (on_set_other (by decide) h), fun h => g7.out (on_set_other (by decide) h), fun h => g8.out (on_set_other (by decide) h), fun h => g9.out (on_set_other (by decide) h), fun h => g10.out (on_set_other (by decide) h), fun h => g11.out (on_set_other (by decide) h), fun h => g12.out (on_set_other (by decide) h), fun h => g13.out (on_set_other (by decide) h), fun h => (fun ⟨o10, h2⟩ => ⟨on_keep o10, h2⟩) (g14.out (on_set_other (by decide) h))⟩
          · refine ⟨rfl, ?_⟩
            rintro l ⟨u29, u30, u31, u32, u33, u34, u35, u36, u37, u38, u39, u40, u41, u42⟩ x ⟨r0, r1, r4, r5, hoa, ho, hd, hG, hsx, HL, g0, g1, g2, g3, g4, g5, g6, g7, g8, g9, g10, g11, g12, g13, g14⟩ hun hpre K hK
            have ho := ho.out (last_off HL (i := 4) (by decide) hun)
            obtain ⟨e3, -⟩ := hpre
            obtain rfl := g3.out e3
            refine ⟨?_⟩
            simp only [Prod.forall, putAll, List.setIfInBounds_toArray, List.set_cons_zero, List.set_cons_succ] at hK ⊢
            obtain ⟨kq, fq⟩ := blkcell r5
            go_simp
            exact hK _ _ _ _ _ _ _ _ _ _ _ _ _ _ _ ⟨r0, r1, r4, r5, hoa, fun _ => ho, hd, hG, hsx, fun h => allOn_keep (HL.out (on_set_other (by decide) h)), fun h => g0.out (on_set_other (by decide) h), fun h => g1.out (on_set_other (by decide) h), fun h => g2.out (on_set_other (by decide) h), fun h => g3.out (on_set_other (by decide) h), fun _ => rfl, fun h => g5.out (on_set_other (by decide) h), fun h => g6.out (on_set_other (by decide) h), fun h => g7.out (on_set_other (by decide) h), fun h => g8.out (on_set_other (by decide) h), fun h => g9.out (on_set_other (by decide) h), fun h => g10.out (on_set_other (by decide) h), fun h => g11.out (on_set_other (by decide) h), fun h => g12.out (on_set_other (by decide) h), fun h => g13.out (on_set_other (by decide) h), fun h => (fun ⟨o10, h2⟩ => ⟨on_keep o10, h2⟩) (g14.out (on_set_other (by decide) h))⟩
          · refine ⟨rfl, ?_⟩
            rintro l ⟨u29, u30, u31, u32, u33, u34, u35, u36, u37, u38, u39, u40, u41, u42⟩ x ⟨r0, r1, r4, r5, hoa, ho, hd, hG, hsx, HL, g0, g1, g2, g3, g4, g5, g6, g7, g8, g9, g10, g11, g12, g13, g14⟩ hun hpre K hK
            have ho := ho.out (last_off HL (i := 5) (by decide) hun)
            clear hpre
            refine ⟨?_⟩
            simp only [Prod.forall, putAll, List.setIfInBounds_toArray, List.set_cons_zero, List.set_cons_succ] at hK ⊢
            go_simp
            exact hK _ _ _ _ _ _ _ _ _ _ _ _ _ _ _ ⟨r0, r1, r4, r5, hoa, fun _ => ho, hd, hG, hsx, fun h => allOn_keep (HL.out (on_set_other (by decide) h)), fun h => g0.out (on_set_other (by decide) h), fun h => g1.out (on_set_other (by decide) h), fun h => g2.out (on_set_other (by decide) h), fun h => g3.out (on_set_other (by decide) h), fun h => g4.out (on_set_other (by decide) h), fun _ => rfl, fun h => g6.out (on_set_other (by decide) h), fun h => g7.out (on_set_other (by decide) h), fun h => g8.out (on_set_other (by decide) h), fun h => g9.out (on_set_other (by decide) h), fun h => g10.out (on_set_other (by decide) h), fun h => g11.out (on_set_other (by decide) h), fun h => g12.out (on_set_other (by decide) h), fun h => g13.out (on_set_other (by decide) h), fun h => (fun ⟨o10, h2⟩ => ⟨on_keep o10, h2⟩) (g14.out (on_set_other (by decide) h))⟩
          · refine ⟨rfl, ?_⟩
            rintro l ⟨u29, u30, u31, u32, u33, u34, u35, u36, u37, u38, u39, u40, u41, u42⟩ x ⟨r0, r1, r4, r5, hoa, ho, hd, hG, hsx, HL, g0, g1, g2, g3, g4, g5, g6, g7, g8, g9, g10, g11, g12, g13, g14⟩ hun hpre K hK
            have ho := ho.out (last_off HL (i := 6) (by decide) hun)
            obtain ⟨e4, e5, -⟩ := hpre
            obtain rfl := g4.out e4
            obtain rfl := g5.out e5
            refine ⟨?_⟩
            simp only [Prod.forall, putAll, List.setIfInBounds_toArray, List.set_cons_zero, List.set_cons_succ] at hK ⊢
            have hk0 : (0 : Int) ≤ (k : Int) := by omega
            have hk4 : (k : Int) < (n1 : Int) := by omega
            go_simp
            exact hK _ _ _ _ _ _ _ _ _ _ _ _ _ _ _ ⟨r0, r1, r4, r5, hoa, fun _ => ho, hd, hG, hsx, fun h => allOn_keep (HL.out (on_set_other (by decide) h)), fun h => g0.out (on_set_other (by decide) h), fun h => g1.out (on_set_other (by decide) h), fun h => g2.out (on_set_other (by decide) h), fun h => g3.out (on_set_other (by decide) h), fun h => g4.out (on_set_other (by decide) h), fun h => g5.out (on_set_other (by decide) h), fun _ => rfl, fun h => g7.out (on_set_other (by decide) h), fun h => g8.out (on_set_other (by decide) h), fun h => g9.out (on_set_other (by decide) h), fun h => g10.out (on_set_other (by decide) h), fun h => g11.out (on_set_other (by decide) h), fun h => g12.out (on_set_other (by decide) h), fun h => g13.out (on_set_other (by decide) h), fun h => (fun ⟨o10, h2⟩ => ⟨on_keep o10, h2⟩) (g14.out (on_set_other (by decide) h))⟩
          · refine ⟨rfl, ?_⟩
            rintro l ⟨u29, u30, u31, u32, u33, u34, u35, u36, u37, u38, u39, u40, u41, u42⟩ x ⟨r0, r1, r4, r5, hoa, ho, hd, hG, hsx, HL, g0, g1, g2, g3, g4, g5, g6, g7, g8, g9, g10, g11, g12, g13, g14⟩ hun hpre K hK
            have ho := ho.out (last_off HL (i := 7) (by decide) hun)
            obtain ⟨e6, -⟩ := hpre
            obtain rfl := g6.out e6
            refine ⟨?_⟩
            simp only [Prod.forall, putAll, List.setIfInBounds_toArray, List.set_cons_zero, List.set_cons_succ] at hK ⊢
            have hcc := ho.at_ EY.out
            go_simp
            exact hK _ _ _ _ _ _ _ _ _ _ _ _ _ _ _ ⟨r0, r1, r4, r5, hoa, fun _ => ho, hd, hG, hsx, fun h => allOn_keep (HL.out (on_set_other (by decide) h)), fun h => g0.out (on_set_other (by decide) h), fun h => g1.out (on_set_other (by decide) h), fun h => g2.out (on_set_other (by decide) h), fun h => g3.out (on_set_other (by decide) h), fun h => g4.out (on_set_other (by decide) h), fun h => g5.out (on_set_other (by decide) h), fun h => g6.out (on_set_other (by decide) h), fun _ => rfl, fun h => g8.out (on_set_other (by decide) h), fun h => g9.out (on_set_other (by decide) h), fun h => g10.out (on_set_other (by decide) h), fun h => g11.out (on_set_other (by decide) h), fun h => g12.out (on_set_other (by decide) h), fun h => g13.out (on_set_other (by decide) h), fun h => (fun ⟨o10, h2⟩ => ⟨on_keep o10, h2⟩) (g14.out (on_set_other (by decide) h))⟩
          · refine ⟨rfl, ?_⟩
            rintro l ⟨u29, u30, u31, u32, u33, u34, u35, u36, u37, u38, u39, u40, u41, u42⟩ x ⟨r0, r1, r4, r5, hoa, ho, hd, hG, hsx, HL, g0, g1, g2, g3, g4, g5, g6, g7, g8, g9, g10, g11, g12, g13, g14⟩ hun hpre K hK
            have ho := ho.out (last_off HL (i := 8) (by decide) hun)
            obtain ⟨e7, -⟩ := hpre
            obtain rfl := g7.out e7
            refine ⟨?_⟩
            simp only [Prod.forall, putAll, List.setIfInBounds_toArray, List.set_cons_zero, List.set_cons_succ] at hK ⊢
            have ew : IntKind.i64.wrap (y + 1) = y + 1 := by simp only [IntKind.wrap_i64]; omega
            go_simp
            exact hK _ _ _ _ _ _ _ _ _ _ _ _ _ _ _ ⟨r0, r1, r4, r5, hoa, fun _ => ho, hd, hG, hsx, fun h => allOn_keep (HL.out (on_set_other (by decide) h)), fun h => g0.out (on_set_other (by decide) h), fun h => g1.out (on_set_other (by decide) h), fun h => g2.out (on_set_other (by decide) h), fun h => g3.out (on_set_other (by decide) h), fun h => g4.out (on_set_other (by decide) h), fun h => g5.out (on_set_other (by decide) h), fun h => g6.out (on_set_other (by decide) h), fun h => g7.out (on_set_other (by decide) h), fun _ => rfl, fun h => g9.out (on_set_other (by decide) h), fun h => g10.out (on_set_other (by decide) h), fun h => g11.out (on_set_other (by decide) h), fun h => g12.out (on_set_other (by decide) h), fun h => g13.out (on_set_other (by decide) h), fun h => (fun ⟨o10, h2⟩ => ⟨on_keep o10, h2⟩) (g14.out (on_set_other (by decide) h))⟩
          · refine ⟨rfl, ?_⟩
            rintro l ⟨u29, u30, u31, u32, u33, u34, u35, u36, u37, u38, u39, u40, u41, u42⟩ x ⟨r0, r1, r4, r5, hoa, ho, hd, hG, hsx, HL, g0, g1, g2, g3, g4, g5, g6, g7, g8, g9, g10, g11, g12, g13, g14⟩ hun hpre K hK
            have ho := ho.out (last_off HL (i := 9) (by decide) hun)
            clear hpre
            refine ⟨?_⟩
            simp only [Prod.forall, putAll, List.setIfInBounds_toArray, List.set_cons_zero, List.set_cons_succ] at hK ⊢
            go_simp
            exact hK _ _ _ _ _ _ _ _ _ _ _ _ _ _ _ ⟨r0, r1, r4, r5, hoa, fun _ => ho, hd, hG, hsx, fun h => allOn_keep (HL.out (on_set_other (by decide) h)), fun h => g0.out (on_set_other (by decide) h), fun h => g1.out (on_set_other (by decide) h), fun h => g2.out (on_set_other (by decide) h), fun h => g3.out (on_set_other (by decide) h), fun h => g4.out (on_set_other (by decide) h), fun h => g5.out (on_set_other (by decide) h), fun h => g6.out (on_set_other (by decide) h), fun h => g7.out (on_set_other (by decide) h), fun h => g8.out (on_set_other (by decide) h), fun _ => rfl, fun h => g10.out (on_set_other (by decide) h), fun h => g11.out (on_set_other (by decide) h), fun h => g12.out (on_set_other (by decide) h), fun h => g13.out (on_set_other (by decide) h), fun h => (fun ⟨o10, h2⟩ => ⟨on_keep o10, h2⟩) (g14.out (on_set_other (by decide) h))⟩
          · refine ⟨rfl, ?_⟩
            rintro l ⟨u29, u30, u31, u32, u33, u34, u35, u36, u37, u38, u39, u40, u41, u42⟩ x ⟨r0, r1, r4, r5, hoa, ho, hd, hG, hsx, HL, g0, g1, g2, g3, g4, g5, g6, g7, g8, g9, g10, g11, g12, g13, g14⟩ hun hpre K hK
            have ho := ho.out (last_off HL (i := 10) (by decide) hun)
            obtain ⟨e9, -⟩ := hpre
            obtain rfl := g9.out e9
            refine ⟨?_⟩
            simp only [Prod.forall, putAll, List.setIfInBounds_toArray, List.set_cons_zero, List.set_cons_succ] at hK ⊢
            go_simp
            refine (D.out 2 _ hd (by omega) (by omega)).mono ?_
            rintro e x2 ⟨z, hz0, hz1, rfl, hd2, hg⟩
            exact hK _ _ _ _ _ _ _ _ _ _ _ _ _ _ _ ⟨blk_gr hg (r0) (by omega), blk_gr hg (r1) (by omega), blk_gr hg (r4) (by omega), blk_gr hg (r5) (by omega), (hoa).gr_ hg (by omega), fun _ => (ho).gr hg (by omega), hd2, gr_trans (hG) hg, (Nat.le_trans hsx hg.size), fun h => allOn_keep (HL.out (on_set_other (by decide) h)), fun h => g0.out (on_set_other (by decide) h), fun h => g1.out (on_set_other (by decide) h), fun h => g2.out (on_set_other (by decide) h), fun h => g3.out (on_set_other (by decide) h), fun h => g4.out (on_set_other (by decide) h), fun h => g5.out (on_set_other (by decide) h), fun h => g6.out (on_set_other (by decide) h), fun h => g7.out (on_set_other (by decide) h), fun h => g8.out (on_set_other (by decide) h), fun h => g9.out (on_set_other (by decide) h), fun _ => ⟨z, hz0, hz1, rfl⟩, fun h => g11.out (on_set_other (by decide) h), fun h => g12.out (on_set_other (by decide) h), fun h => g13.out (on_set_other (by decide) h), fun h => off_of_on hun (g14.out (on_set_other (by decide) h)).1⟩
          · refine ⟨rfl, ?_⟩
            rintro l ⟨u29, u30, u31, u32, u33, u34, u35, u36, u37, u38, u39, u40, u41, u42⟩ x ⟨r0, r1, r4, r5, hoa, ho, hd, hG, hsx, HL, g0, g1, g2, g3, g4, g5, g6, g7, g8, g9, g10, g11, g12, g13, g14⟩ hun hpre K hK
            have ho := ho.out (last_off HL (i := 11) (by decide) hun)
            obtain ⟨e10, -⟩ := hpre
            obtain ⟨z, hz0, hz1, rfl⟩ := g10.out e10
            refine ⟨?_⟩
            simp only [Prod.forall, putAll, List.setIfInBounds_toArray, List.set_cons_zero, List.set_cons_succ] at hK ⊢
            have ew : IntKind.i64.wrap (2 * z) = 2 * z := by simp only [IntKind.wrap_i64]; omega
            go_simp
            exact hK _ _ _ _ _ _ _ _ _ _ _ _ _ _ _ ⟨r0, r1, r4, r5, hoa, fun _ => ho, hd, hG, hsx, fun h => allOn_keep (HL.out (on_set_other (by decide) h)), fun h => g0.out (on_set_other (by decide) h), fun h => g1.out (on_set_other (by decide) h), fun h => g2.out (on_set_other (by decide) h), fun h => g3.out (on_set_other (by decide) h), fun h => g4.out (on_set_other (by decide) h), fun h => g5.out (on_set_other (by decide) h), fun h => g6.out (on_set_other (by decide) h), fun h => g7.out (on_set_other (by decide) h), fun h => g8.out (on_set_other (by decide) h), fun h => g9.out (on_set_other (by decide) h), fun h => g10.out (on_set_other (by decide) h), fun _ => ⟨z, hz0, hz1, rfl⟩, fun h => g12.out (on_set_other (by decide) h), fun h => g13.out (on_set_other (by decide) h), fun h => (fun ⟨o10, h2⟩ => ⟨on_keep o10, h2⟩) (g14.out (on_set_other (by decide) h))⟩
          · refine ⟨rfl, ?_⟩
            rintro l ⟨u29, u30, u31, u32, u33, u34, u35, u36, u37, u38, u39, u40, u41, u42⟩ x ⟨r0, r1, r4, r5, hoa, ho, hd, hG, hsx, HL, g0, g1, g2, g3, g4, g5, g6, g7, g8, g9, g10, g11, g12, g13, g14⟩ hun hpre K hK
            have ho := ho.out (last_off HL (i := 12) (by decide) hun)
            obtain ⟨e8, e11, -⟩ := hpre
            obtain rfl := g8.out e8
            obtain ⟨z, hz0, hz1, rfl⟩ := g11.out e11
            refine ⟨?_⟩
            simp only [Prod.forall, putAll, List.setIfInBounds_toArray, List.set_cons_zero, List.set_cons_succ] at hK ⊢
            have ew : IntKind.i64.wrap (y + 1 - 2 * z) = y + 1 - 2 * z := by simp only [IntKind.wrap_i64]; omega
            go_simp
            exact hK _ _ _ _ _ _ _ _ _ _ _ _ _ _ _ ⟨r0, r1, r4, r5, hoa, fun _ => ho, hd, hG, hsx, fun h => allOn_keep (HL.out (on_set_other (by decide) h)), fun h => g0.out (on_set_other (by decide) h), fun h => g1.out (on_set_other (by decide) h), fun h => g2.out (on_set_other (by decide) h), fun h => g3.out (on_set_other (by decide) h), fun h => g4.out (on_set_other (by decide) h), fun h => g5.out (on_set_other (by decide) h), fun h => g6.out (on_set_other (by decide) h), fun h => g7.out (on_set_other (by decide) h), fun h => g8.out (on_set_other (by decide) h), fun h => g9.out (on_set_other (by decide) h), fun h => g10.out (on_set_other (by decide) h), fun h => g11.out (on_set_other (by decide) h), fun _ => ⟨_, rfl⟩, fun h => g13.out (on_set_other (by decide) h), fun h => (fun ⟨o10, h2⟩ => ⟨on_keep o10, h2⟩) (g14.out (on_set_other (by decide) h))⟩
          · refine ⟨rfl, ?_⟩
            rintro l ⟨u29, u30, u31, u32, u33, u34, u35, u36, u37, u38, u39, u40, u41, u42⟩ x ⟨r0, r1, r4, r5, hoa, ho, hd, hG, hsx, HL, g0, g1, g2, g3, g4, g5, g6, g7, g8, g9, g10, g11, g12, g13, g14⟩ hun hpre K hK
            have ho := ho.out (last_off HL (i := 13) (by decide) hun)
            obtain ⟨e1, e2, e0, _, _, e3, e4, e5, e6, e7, e8, e9, e10, e11, e12, -⟩ := hpre
            obtain rfl := g0.out e0
            obtain rfl := g1.out e1
            obtain rfl := g2.out e2
            obtain rfl := g3.out e3
            obtain rfl := g4.out e4
            obtain rfl := g5.out e5
            obtain rfl := g6.out e6
            obtain rfl := g7.out e7
            obtain rfl := g8.out e8
            obtain rfl := g9.out e9
            obtain ⟨z, hz0, hz1, rfl⟩ := g10.out e10
            obtain ⟨z, hz0, hz1, rfl⟩ := g11.out e11
            obtain ⟨t, rfl⟩ := g12.out e12
            refine ⟨?_⟩
            simp only [Prod.forall, putAll, List.setIfInBounds_toArray, List.set_cons_zero, List.set_cons_succ] at hK ⊢
            have hk0 : (0 : Int) ≤ (k : Int) := by omega
            have hk4 : (k : Int) < (n1 : Int) := by omega
            go_simp
            exact hK _ _ _ _ _ _ _ _ _ _ _ _ _ _ _ ⟨r0, r1, r4, r5, hoa, fun _ => ho, hd, hG, hsx, fun h => allOn_keep (HL.out (on_set_other (by decide) h)), fun h => g0.out (on_set_other (by decide) h), fun h => g1.out (on_set_other (by decide) h), fun h => g2.out (on_set_other (by decide) h), fun h => g3.out (on_set_other (by decide) h), fun h => g4.out (on_set_other (by decide) h), fun h => g5.out (on_set_other (by decide) h), fun h => g6.out (on_set_other (by decide) h), fun h => g7.out (on_set_other (by decide) h), fun h => g8.out (on_set_other (by decide) h), fun h => g9.out (on_set_other (by decide) h), fun h => g10.out (on_set_other (by decide) h), fun h => g11.out (on_set_other (by decide) h), fun h => g12.out (on_set_other (by decide) h), fun _ => rfl, fun h => (fun ⟨o10, h2⟩ => ⟨on_keep o10, h2⟩) (g14.out (on_set_other (by decide) h))⟩
          · refine ⟨rfl, ?_⟩
            rintro l ⟨u29, u30, u31, u32, u33, u34, u35, u36, u37, u38, u39, u40, u41, u42⟩ x ⟨r0, r1, r4, r5, hoa, ho, hd, hG, hsx, HL, g0, g1, g2, g3, g4, g5, g6, g7, g8, g9, g10, g11, g12, g13, g14⟩ hun hpre K hK
            have hpre0 := hpre
            have ho := ho.out (off_self hun)
            obtain ⟨e13, e12, e10, e0, e1, e2, e3, e4, e5, e6, e7, e8, e9, _, e11, _, -⟩ := hpre
            obtain rfl := g0.out e0
            obtain rfl := g1.out e1
            obtain rfl := g2.out e2
            obtain rfl := g3.out e3
            obtain rfl := g4.out e4
            obtain rfl := g5.out e5
            obtain rfl := g6.out e6
            obtain rfl := g7.out e7
            obtain rfl := g8.out e8
            obtain rfl := g9.out e9
            obtain ⟨z, hz0, hz1, rfl⟩ := g10.out e10
            obtain ⟨z, hz0, hz1, rfl⟩ := g11.out e11
            obtain ⟨t, rfl⟩ := g12.out e12
            obtain rfl := g13.out e13
            refine ⟨?_⟩
            simp only [Prod.forall, putAll, List.setIfInBounds_toArray, List.set_cons_zero, List.set_cons_succ] at hK ⊢
            have hf := ho.fro
            have hcc := ho.at_ EY.out
            go_simp
            have hoy := ho.set_ k t
            exact hK _ _ _ _ _ _ _ _ _ _ _ _ _ _ _ ⟨blk_far (r0) (by (try dsimp only); omega) _, blk_far (r1) (by (try dsimp only); omega) _, blk_far (r4) (by (try dsimp only); omega) _, blk_far (r5) (by (try dsimp only); omega) _, (hoa).setBox_ (by (try dsimp only); omega) _, fun h => self_absurd hun h, (hd).set_ (by omega) (by omega) _ _, gr_setF (hG) (by (try dsimp only); omega) _, (by simpa using hsx), fun _ => allOn_keep hpre0, fun h => g0.out (on_set_other (by decide) h), fun h => g1.out (on_set_other (by decide) h), fun h => g2.out (on_set_other (by decide) h), fun h => g3.out (on_set_other (by decide) h), fun h => g4.out (on_set_other (by decide) h), fun h => g5.out (on_set_other (by decide) h), fun h => g6.out (on_set_other (by decide) h), fun h => g7.out (on_set_other (by decide) h), fun h => g8.out (on_set_other (by decide) h), fun h => g9.out (on_set_other (by decide) h), fun h => g10.out (on_set_other (by decide) h), fun h => g11.out (on_set_other (by decide) h), fun h => g12.out (on_set_other (by decide) h), fun h => g13.out (on_set_other (by decide) h), fun _ => ⟨on_keep e10, ⟨xs.set k t, by simp [hlen], hoy⟩⟩⟩
        · rintro l ⟨u29, u30, u31, u32, u33, u34, u35, u36, u37, u38, u39, u40, u41, u42⟩ x ⟨r0, r1, r4, r5, hoa, ho, hd, hG, hsx, HL, g0, g1, g2, g3, g4, g5, g6, g7, g8, g9, g10, g11, g12, g13, g14⟩ hon
          have e0 := hon (j := 0) rfl trivial
          have e1 := hon (j := 1) rfl ⟨e0, trivial⟩
          have e2 := hon (j := 2) rfl trivial
          have e3 := hon (j := 3) rfl trivial
          have e4 := hon (j := 4) rfl ⟨e3, trivial⟩
          have e5 := hon (j := 5) rfl trivial
          have e6 := hon (j := 6) rfl ⟨e4, e5, trivial⟩
          have e7 := hon (j := 7) rfl ⟨e6, trivial⟩
          have e8 := hon (j := 8) rfl ⟨e7, trivial⟩
          have e9 := hon (j := 9) rfl trivial
          have e10 := hon (j := 10) rfl ⟨e9, trivial⟩
          have e11 := hon (j := 11) rfl ⟨e10, trivial⟩
          have e12 := hon (j := 12) rfl ⟨e8, e11, trivial⟩
          have e13 := hon (j := 13) rfl ⟨e1, e2, e0, e1, e2, e3, e4, e5, e6, e7, e8, e9, e10, e11, e12, trivial⟩
          have e14 := hon (j := 14) rfl ⟨e13, e12, e10, e0, e1, e2, e3, e4, e5, e6, e7, e8, e9, e10, e11, e12, trivial⟩
          obtain rfl := g0.out e0; clear g0
          obtain rfl := g1.out e1; clear g1
          obtain rfl := g2.out e2; clear g2
          obtain rfl := g3.out e3; clear g3
          obtain rfl := g4.out e4; clear g4
          obtain rfl := g5.out e5; clear g5
          obtain rfl := g6.out e6; clear g6
          obtain rfl := g7.out e7; clear g7
          obtain rfl := g8.out e8; clear g8
          obtain rfl := g9.out e9; clear g9
          obtain ⟨z, hz0, hz1, rfl⟩ := g10.out e10; clear g10
          obtain ⟨z, hz0, hz1, rfl⟩ := g11.out e11; clear g11
          obtain ⟨t, rfl⟩ := g12.out e12; clear g12
          obtain rfl := g13.out e13; clear g13
          obtain ⟨-, ⟨ys, hly, hoy⟩⟩ := g14.out e14; clear g14
          clear hon ho HL e0 e1 e2 e3 e4 e5 e6 e7 e8 e9 e10 e11 e12 e13 e14 l
          refine ⟨?_⟩
          simp only [Prod.forall, putAll, List.setIfInBounds_toArray, List.set_cons_zero, List.set_cons_succ]
          have q0 : w.heap.size < x.heap.size := by omega
          have q1 : w.heap.size + 1 < x.heap.size := by omega
          have q2 : w2.heap.size < x.heap.size := by omega
          have q5 : w5.heap.size < x.heap.size := by omega
          have hgx := hoy.lt
          have hoa := Lib.hid hoa
          have hob := Lib.hid (show OwnL x w3.heap.size w5.heap.size (some ⟨gl, 0, none⟩) ys from by obtain ⟨full, hh, hp⟩ := hoy; exact .inr ⟨gl, full, rfl, hlo, hhi, hh, hp⟩)
          have H8 := Lib.hid hd; have G8 := Lib.hid hG
          have r0 := Lib.hid r0; have r1 := Lib.hid r1; have r4 := Lib.hid r4; have r5 := Lib.hid r5
          obtain ⟨k0, f0⟩ := blkcell r0.out
          obtain ⟨k1, f1⟩ := blkcell r1.out
          obtain ⟨k4, f4⟩ := blkcell r4.out
          obtain ⟨k5, f5⟩ := blkcell r5.out
          clear hd hG hoy
          go_upto_region 7 with (fail)
          go_region_with (fail)
          all_goals
            skip
            have FA := Lib.hid (((show OwnL x _ _ A1 xs from hoa.out).setBox_ (p := ⟨w.heap.size, 0, none⟩) (.inl (by show w.heap.size < _; omega)) (.slice A1 n1 c1)).setBox_ (p := ⟨w.heap.size + 1, 0, none⟩) (.inl (by show w.heap.size + 1 < _; omega)) (.slice (some ⟨gl, 0, none⟩) (n1) c5))
            have FB := Lib.hid (((show OwnL x _ _ (some ⟨gl, 0, none⟩) (ys) from hob.out).setBox_ (p := ⟨w.heap.size, 0, none⟩) (.inl (by show w.heap.size < _; omega)) (.slice A1 n1 c1)).setBox_ (p := ⟨w.heap.size + 1, 0, none⟩) (.inl (by show w.heap.size + 1 < _; omega)) (.slice (some ⟨gl, 0, none⟩) (n1) c5))
            have FD := Lib.hid (((H8.out).set_ (b := w.heap.size) (by omega) (by omega) 0 (.slice A1 n1 c1)).set_ (b := w.heap.size + 1) (by omega) (by omega) 0 (.slice (some ⟨gl, 0, none⟩) (n1) c5))
            have FG := Lib.hid (gr_setF (gr_setF (G8.out) (p := ⟨w.heap.size, 0, none⟩) (by show w.heap.size ≤ w.heap.size; omega) (.slice A1 n1 c1)) (p := ⟨w.heap.size + 1, 0, none⟩) (by show w.heap.size ≤ w.heap.size + 1; omega) (.slice (some ⟨gl, 0, none⟩) (n1) c5))
            go_wp2
            refine bodyPost_ret (v := .tuple #[lab A1 n1 c1, lab (some ⟨gl, 0, none⟩) (n1) c5]) (by simp [results, Tryd.results28, go_sem, *]) rfl ?_
            exact ⟨A1, c1, xs, some ⟨gl, 0, none⟩, c5, ys, by simp only [hlen, hly], by omega, by omega, FA.out.more_ (by omega) (by simp; omega), FB.out.more_ (by omega) (by simp <;> omega), FD.out.bel ((Below.refl _ _).drew), gr_drewN FG.out 1⟩

end Go.Proofs.YtkcchceoljlnaaaDoor
