/- Contracts of the draws of categories. -/
import Derived.Test.YtjhkaipceepjiaaDrawP
import Derived.Test.YtjhkaipceepjiaaCatDrop
import Derived.Deep.Cut
namespace Go.Proofs.Ytjhkaipceepjiaa
set_option linter.unusedSimpArgs false
set_option linter.unusedVariables false
open Go.RowKit
attribute [local go_sem ↓] Go.wp_at_zero Go.wp_at_succ

theorem vals_snoc (xs : List El) (x : El) : vals (xs ++ [x]) = vals xs ++ [.int .i64 x.1, .bool x.2] := by simp [vals]
theorem Els.take {w : World} {A : Option Addr} {xs : List El} (h : Els w A xs) (k : Nat) : Els w A (xs.take k) := by
  rcases h with rfl | ⟨b, off, rfl, hc⟩
  · exact .inl (by simp)
  · refine .inr ⟨b, off, rfl, fun j c hj => hc j c ?_⟩
    rw [List.getElem?_take] at hj
    split at hj
    · exact hj
    · cases hj
theorem vals_set0 {xs : List El} {c : El} (h : xs[0]? = some c) (y : Int) : (vals xs).set 0 (.int .i64 y) = vals (xs.set 0 (y, c.2)) := by
  match xs, h with
  | x :: xs, h => simp at h; subst h; simp [vals]
def CatsP (W : World) (e : Ending) (w' : World) : Prop :=
  ∃ A' m c' xs, e = .returned (.slice A' m c') ∧ xs.length = m ∧ m ≤ 4 ∧ Els w' A' xs ∧ Below W.heap.size W w'
set_option maxHeartbeats 12800000 in
theorem l4Cats_any (W : World) (g : Nat) (A : Option Addr) (n c : Nat) (w : World) (hA : Bys W A n) (hn : n ≤ 1048576) (hd : Dr W g A n c w) :
    Calls Try.prog 29 #[.pointer (some ⟨g, 0, none⟩)] w (CatsP W) := by
  have D := Lib.hid (fun m w' h h1 h2 => l1Below_any W g A n c m w' hA hn h1 h2 h)
  have O := Lib.hid (fun m w' h h1 h2 => l1Once_any W g A n c m w' hA hn h1 h2 h)
  have E := Lib.hid (fun b w' h h1 h2 => l1PickInt_any W g A n c [-1, 1000] b 2 2 w' hA hn h rfl (by omega) (by omega) h1 h2)
  obtain ⟨i0, hi, hz0, hz1, hz2⟩ := info_parts el_info
  have hgl := hd.lt
  have hWw := hd.below.size
  have HD := Lib.hid (hd.al (.cells #[] 40))
  have HO := Lib.hid (ownsRow_made w w.heap.size 40 (Nat.le_refl _))
  clear hA hd
  go_enter Try.func29, Try.ntmps29
  go_wp2
  go_loopw [3, 4] (fun v i wr => ∃ (k : Nat) (xs : List El), k ≤ 4 ∧ i = .int .i64 k ∧ Hid (xs.length = k) ∧ Hid (wr.ownsRow w.heap.size 40 2 v k (vals xs)) ∧ Hid (Dr W g A n c wr) ∧ w.heap.size ≤ wr.heap.size) (fun _ i _ => 4 - (intOf i).toNat)
  case atStart => exact ⟨0, [], Nat.zero_le _, rfl, rfl, HO.out, HD.out, by simp⟩
  case round =>
    obtain ⟨k, xs, hk, rfl, hlen, hown, hD, hsz⟩ := hrel
    by_cases hlt : k < 4
    · have hlt2 : (k : Int) < 4 := by omega
      go_wp2_with fail
      refine (D.out 4 _ hD.out (by omega) (by omega)).mono ?_
      rintro e w1 ⟨z, hz0', hz1', rfl, hD1, hg1⟩
      have H1 := Lib.hid hD1; have hown := Lib.hid (ownsRow_gr hown.out hg1 hgl)
      have hs1 := hg1.size
      clear hD1 hg1
      go_wp2_with fail
      refine (O.out 2 _ H1.out (by omega) (by omega)).mono ?_
      rintro e w2 ⟨l, rfl, hD2, hg2⟩
      have hown2 := ownsRow_gr hown.out hg2 hgl
      have hvb := Lib.hid (fun (e : u3.ownBlock = some w2.heap.size) => Nat.lt_irrefl _ (hown2.lt w2.heap.size e).2)
      have hown := Lib.hid (hown2.alloc (.cells #[.int .i64 z, .bool l] 40))
      have H2 := Lib.hid (hD2.al (.cells #[.int .i64 z, .bool l] 40))
      have hs2 := hg2.size
      have hl2 := hD2.lt
      have bx := Lib.hid (heap_alloc_new w2 (.cells #[.int .i64 z, .bool l] 40))
      clear hD2 hg2 hown2
      go_wp2_with fail
      refine (O.out 10 _ H2.out (by omega) (by omega)).mono ?_
      rintro e w3 ⟨r, rfl, hD3, hg3⟩
      have H3 := Lib.hid hD3; have hown := Lib.hid (ownsRow_gr hown.out hg3 hgl)
      have bx := Lib.hid (blk_gr hg3 bx.out (by omega))
      have hs3 := hg3.size
      simp only [World.size_alloc] at hs3
      obtain ⟨kb, fb⟩ := blkcell bx.out
      have hlb := lt_of_blk bx.out
      clear hD3 hg3
      cases r
      · have HX := H3; have HOX := hown
        clear H3 hown
        have hsX : w.heap.size ≤ w3.heap.size := by omega
        go_wp2_with (at_builtin; refine wpList_append_own _ rfl _ _ 25 rfl w.heap.size 40 i0 (ev (0, false)) 2 16 Try.underlying25 hi hz0 hz1 hz2 rfl (by decide) _ _ _ rfl (HOX.out.alloc _) ⟨w3.heap.size, 0, none⟩ 1 1 [.int .i64 z, .bool l] rfl rfl ?c1 ?c2 ?c3 ?c4 ?c5 ?_)
        case c1 =>
          intro j u hj
          match j, hj with
          | 0, hj => simp at hj; subst hj; exact (blkcell (heap_alloc_new w3 (.cells #[.int .i64 z, .bool l] 40))).1 0
          | 1, hj => simp at hj; subst hj; exact (blkcell (heap_alloc_new w3 (.cells #[.int .i64 z, .bool l] 40))).1 1
        case c2 => intro u hu; simp at hu; rcases hu with rfl | rfl <;> rfl
        case c3 => unfold maxLen; omega
        case c4 => omega
        case c5 => simp; omega
        intro v' w5 hown' hgrow _
        have hD5 := Lib.hid ((HX.out.al (.cells #[.int .i64 z, .bool l] 40)).app (HOX.out.alloc _) hgrow hgl hWw)
        have hown5 := Lib.hid (show w5.ownsRow w.heap.size 40 2 v' (k + 1) (vals (xs ++ [(z, l)])) by rw [vals_snoc]; exact hown')
        have hs5 : w.heap.size ≤ w5.heap.size := Nat.le_trans hsX (Nat.le_trans (by simp) hgrow.size)
        have hlen5 := Lib.hid (show (xs ++ [((z : Int), l)]).length = k + 1 by simp [hlen.out])
        clear hown' hgrow
        go_wp2
        exact ⟨⟨k + 1, xs ++ [(z, l)], by omega, by go_num, hlen5, hown5, hD5, hs5⟩, by simp [intOf]; omega⟩
      · go_upto_region 8 with (fail)
        have bX := blk_set (i := 0) bx.out (.int .i64 999)
        have HX := Lib.hid (H3.out.set_ (b := w2.heap.size) (by omega) (by omega) 0 (.int .i64 999))
        have HOX := Lib.hid (ownsRow_set hown.out (fun e => hvb.out e) 0 (.int .i64 999))
        have hsz4 : w3.heap.size = (w3.setCell ⟨w2.heap.size, 0, none⟩ (.int .i64 999)).heap.size := by simp
        clear kb fb bx
        generalize w3.setCell ⟨w2.heap.size, 0, none⟩ (.int .i64 999) = X at bX HX HOX hsz4 ⊢
        obtain ⟨kb, fb⟩ := blkcell bX
        have hlb := lt_of_blk bX
        have hsz5 : w3.heap.size ≤ X.heap.size := by omega
        clear hsz4 bX
        have hsX : w.heap.size ≤ X.heap.size := by omega
        go_wp2_with (at_builtin; refine wpList_append_own _ rfl _ _ 25 rfl w.heap.size 40 i0 (ev (0, false)) 2 16 Try.underlying25 hi hz0 hz1 hz2 rfl (by decide) _ _ _ rfl (HOX.out.alloc _) ⟨X.heap.size, 0, none⟩ 1 1 [.int .i64 999, .bool l] rfl rfl ?c1 ?c2 ?c3 ?c4 ?c5 ?_)
        case c1 =>
          intro j u hj
          match j, hj with
          | 0, hj => simp at hj; subst hj; exact (blkcell (heap_alloc_new X (.cells #[.int .i64 999, .bool l] 40))).1 0
          | 1, hj => simp at hj; subst hj; exact (blkcell (heap_alloc_new X (.cells #[.int .i64 999, .bool l] 40))).1 1
        case c2 => intro u hu; simp at hu; rcases hu with rfl | rfl <;> rfl
        case c3 => unfold maxLen; omega
        case c4 => omega
        case c5 => simp; omega
        intro v' w5 hown' hgrow _
        have hD5 := Lib.hid ((HX.out.al (.cells #[.int .i64 999, .bool l] 40)).app (HOX.out.alloc _) hgrow hgl hWw)
        have hown5 := Lib.hid (show w5.ownsRow w.heap.size 40 2 v' (k + 1) (vals (xs ++ [(999, l)])) by rw [vals_snoc]; exact hown')
        have hs5 : w.heap.size ≤ w5.heap.size := Nat.le_trans hsX (Nat.le_trans (by simp) hgrow.size)
        have hlen5 := Lib.hid (show (xs ++ [((999 : Int), l)]).length = k + 1 by simp [hlen.out])
        clear hown' hgrow
        go_wp2
        exact ⟨⟨k + 1, xs ++ [(999, l)], by omega, by go_num, hlen5, hown5, hD5, hs5⟩, by simp [intOf]; omega⟩
    · obtain rfl : k = 4 := by omega
      have hB := Lib.hid hD.out.below
      go_wp2_with fail
      refine (D.out 20 _ hD.out (by omega) (by omega)).mono ?_
      rintro e w1 ⟨z, hz0', hz1', rfl, hD1, hg1⟩
      have H1 := Lib.hid hD1; have hown := Lib.hid (ownsRow_gr hown.out hg1 hgl)
      have hs1 := hg1.size
      clear hD1 hg1
      obtain ⟨gl, cap, rfl, hcap⟩ : ∃ gl cap, u3 = .slice (some ⟨gl, 0, none⟩) 4 cap ∧ 4 ≤ cap := by
        rcases hown.out.2 with ⟨_, h⟩ | ⟨gl, cap, cur, hv, _, _, hc, _⟩
        · omega
        · exact ⟨gl, cap, hv, hc⟩
      have hO := Lib.hid (OwnE.of_row hown.out)
      by_cases h0 : z = 0
      · subst h0
        have hc1 : (3 : Int) ≤ (cap : Int) := by omega
        go_wp2
        go_ret
        exact ⟨_, 3, _, xs.take 3, rfl, by simp [hlen.out], by omega, hO.out.els.take 3, H1.out.below⟩
      · have e0 : (z == (0 : Int)) = false := by simpa using h0
        by_cases h1 : z = 1
        · subst h1
          go_wp2_with fail
          refine (E.out _ _ (H1.out.al _) (by have := H1.out.lt; omega) (lits w1 _ _ [-1, 1000] rfl)).mono ?_
          rintro e w2 ⟨y, hy, rfl, hD2, hg2⟩
          have H2 := Lib.hid hD2; have hown := Lib.hid (ownsRow_gr (hown.out.alloc _) hg2 hgl)
          obtain ⟨x0, ex⟩ : ∃ x0, xs[0]? = some x0 := ⟨_, List.getElem?_eq_getElem (by have := hlen.out; omega)⟩
          have EX := Lib.hid ex
          have hO2 := OwnE.of_row hown.out
          rcases hO2 with hx0 | ⟨g', full, hA', hBg, hh, hp⟩
          · exfalso; have := hlen.out; rw [hx0] at this; simp at this
          injection hA' with hA'
          injection hA' with hA'
          subst hA'
          obtain ⟨d0, d1⟩ := pre_at hh hp ex
          simp only [Nat.zero_mul, Nat.zero_add] at d0 d1
          have kf := (blkcell hh).2
          have HS := Lib.hid (show Els (w2.setCell ⟨gl, 0, none⟩ (.int .i64 y)) (some ⟨gl, 0, none⟩) (xs.set 0 (y, x0.2)) from OwnE.els (B := w.heap.size) (.inr ⟨gl, _, rfl, hBg, blk_set (i := 0) hh (.int .i64 y), by rw [← vals_set0 ex]; exact hp.set_ _ _⟩))
          have HBS := Lib.hid (H2.out.below.setCell (p := ⟨gl, 0, none⟩) (by show W.heap.size ≤ gl; omega) (.int .i64 y))
          clear hD2 hg2 hy hh hp ex
          go_wp2
          go_ret
          exact ⟨_, 4, _, xs.set 0 (y, x0.2), rfl, by simp [hlen.out], by omega, HS.out, HBS.out⟩
        · have e1 : (z == (1 : Int)) = false := by simpa using h1
          have h2 : 2 ≤ z := by omega
          clear h0 h1
          go_wp2
          go_ret
          exact ⟨_, 4, _, xs, rfl, hlen.out, by omega, hO.out.els, H1.out.below⟩

end Go.Proofs.Ytjhkaipceepjiaa
