/- Contracts of the draws of trees. -/
import Derived.Test.YtdgkfpcecppfdaaDrawP
import Derived.Test.YtdgkfpcecppfdaaETreeNew
import Derived.Test.YtdgkfpcecppfdaaETreeSplit
import Derived.Test.YtdgkfpcecppfdaaETreeDropS
import Derived.Test.YtdgkfpcecppfdaaOpenB
import Derived.Deep.RegionWith
namespace Go.Proofs.Ytdgkfpcecppfdaa
set_option linter.unusedSimpArgs false
set_option linter.unusedVariables false
open Go.RowKit
attribute [local go_sem ↓] Go.wp_at_zero Go.wp_at_succ

theorem OwnE.gr {w w' : World} {B g : Nat} {A : Option Addr} {xs : List El} (h : OwnE w B A xs) (hg : w.grownBy w' (some g)) (hlt : g < B) : OwnE w' B A xs := by
  rcases h with rfl | ⟨g', full, rfl, h1, hh, hp⟩
  · exact .inl rfl
  · exact .inr ⟨g', full, rfl, h1, blk_gr hg hh (by omega), hp⟩
theorem OwnE.far {w : World} {B : Nat} {A : Option Addr} {xs : List El} (h : OwnE w B A xs) {p : Addr} (hlt : p.block < B) (u : Value) : OwnE (w.setCell p u) B A xs := by
  rcases h with rfl | ⟨g', full, rfl, h1, hh, hp⟩
  · exact .inl rfl
  · exact .inr ⟨g', full, rfl, h1, blk_far hh (by omega) u, hp⟩
theorem OwnE.take_ {w : World} {B : Nat} {A : Option Addr} {xs : List El} (h : OwnE w B A xs) (k : Nat) : OwnE w B A (xs.take k) := by
  rcases h with rfl | ⟨g', full, rfl, h1, hh, hp⟩
  · exact .inl (by simp)
  · refine .inr ⟨g', full, rfl, h1, hh, fun j v hj => hp j v ?_⟩
    have e : vals xs = vals (xs.take k) ++ vals (xs.drop k) := by unfold vals; rw [← List.flatMap_append, List.take_append_drop]
    rw [e, List.getElem?_append_left (List.getElem?_eq_some_iff.1 hj).1]; exact hj
theorem OB.gr {w w' : World} {gl g : Nat} {xs : List El} (h : OB w gl xs) (hg : w.grownBy w' (some g)) (hne : gl ≠ g) : OB w' gl xs := by
  obtain ⟨full, hh, hp⟩ := h
  exact ⟨full, blk_gr hg hh hne, hp⟩
theorem set_noop {α : Type} {l : List α} {i : Nat} {v : α} (h : l[i]? = some v) : l.set i v = l := by
  apply List.ext_getElem?
  intro j
  rw [List.getElem?_set]
  by_cases hij : i = j
  · subst hij; rw [if_pos rfl, if_pos (List.getElem?_eq_some_iff.1 h).1, h]
  · rw [if_neg hij]
theorem vals_setLive {xs : List El} {k : Nat} {x : El} (h : xs[k]? = some x) (b : Bool) : (vals xs).set (k * 5) (.bool b) = vals (xs.set k (b, x.2)) := by
  obtain ⟨-, h1, h2, h3, h4⟩ := vals_at xs k
  rw [h] at h1 h2 h3 h4
  have ne : ∀ {l : List Value} {i : Nat} {v : Value}, k * 5 ≠ i → l[i]? = some v → (l.set (k * 5) (.bool b))[i]? = some v := fun hne hl => by rw [List.getElem?_set, if_neg hne]; exact hl
  rw [← vals_set]
  rw [set_noop (ne (by omega) h1), set_noop (ne (by omega) h2), set_noop (ne (by omega) h3), set_noop (ne (by omega) h4)]
theorem vals_setRent {xs : List El} {k : Nat} {x : El} (h : xs[k]? = some x) (v : Int) : (vals xs).set (k * 5 + 3) (.int .i64 v) = vals (xs.set k (x.1, x.2.1, x.2.2.1, v, x.2.2.2.2)) := by
  obtain ⟨h0, h1, h2, -, h4⟩ := vals_at xs k
  rw [h] at h0 h1 h2 h4
  rw [← vals_set]
  rw [set_noop h0, set_noop h1, set_noop h2, set_noop (l := (vals xs).set (k * 5 + 3) (.int .i64 v)) (i := k * 5 + 4) (by rw [List.getElem?_set, if_neg (by omega)]; exact h4)]
theorem OB.setLive {w : World} {g : Nat} {xs : List El} {k : Nat} {x : El} (h : OB w g xs) (hk : xs[k]? = some x) (b : Bool) :
    OB (w.setCell ⟨g, k * 5, none⟩ (.bool b)) g (xs.set k (b, x.2)) := by
  obtain ⟨full, hh, hp⟩ := h
  exact ⟨_, blk_set (i := k * 5) hh (.bool b), by rw [← vals_setLive hk]; exact hp.set_ _ _⟩
theorem OB.setRent {w : World} {g : Nat} {xs : List El} {k : Nat} {x : El} (h : OB w g xs) (hk : xs[k]? = some x) (v : Int) :
    OB (w.setCell ⟨g, k * 5 + 3, none⟩ (.int .i64 v)) g (xs.set k (x.1, x.2.1, x.2.2.1, v, x.2.2.2.2)) := by
  obtain ⟨full, hh, hp⟩ := h
  exact ⟨_, blk_set (i := k * 5 + 3) hh (.int .i64 v), by rw [← vals_setRent hk]; exact hp.set_ _ _⟩
def AmtP (W : World) (g : Nat) (A : Option Addr) (n c : Nat) (w : World) (e : Ending) (w' : World) : Prop :=
  ∃ a : B3, okB3 a = true ∧ e = .returned (amt3 a) ∧ Dr W g A n c w' ∧ w.grownBy w' (some g)
set_option maxHeartbeats 1600000 in
theorem l5Amt_any (W : World) (g : Nat) (A : Option Addr) (n c : Nat) (w : World) (hA : Bys W A n) (hn : n ≤ 1048576) (hd : Dr W g A n c w) :
    Calls Try.prog 73 #[.pointer (some ⟨g, 0, none⟩)] w (AmtP W g A n c w) := by
  have C := Lib.hid (fun m w' h h1 h2 => l1Below_any W g A n c m w' hA hn h1 h2 h)
  have HD := Lib.hid (hd.bel ((Below.refl _ _).alloc (Nat.le_refl _) (.cells #[.int .i64 0, .int .i64 0, .int .i64 0] 27)))
  have hgl := hd.lt
  clear hA hd
  go_enter Try.func73, Try.ntmps73
  go_wp2_with fail
  refine (C.out 40 _ HD.out (by omega) (by omega)).mono ?_
  rintro e w1 ⟨z1, a1, b1, rfl, hD1, hg1⟩
  have H1 := Lib.hid hD1; have G1 := Lib.hid (gr_trans (gr_alloc (gr_refl w _) _) hg1)
  have hbx := (hg1.block w.heap.size (by simp) (fun e => by injection e with e; omega)).trans (heap_alloc_new w _)
  clear hD1 hg1
  go_wp2_with fail
  refine (C.out 400 _ H1.out (by omega) (by omega)).mono ?_
  rintro e w2 ⟨z2, a2, b2, rfl, hD2, hg2⟩
  have H2 := Lib.hid hD2; have G2 := Lib.hid (gr_trans G1.out hg2)
  have hbx := (hg2.block w.heap.size (lt_of_blk hbx) (fun e => by injection e with e; omega)).trans hbx
  clear hD2 hg2
  go_wp2_with fail
  refine (C.out 60 _ H2.out (by omega) (by omega)).mono ?_
  rintro e w3 ⟨z3, a3, b3, rfl, hD3, hg3⟩
  have H3 := Lib.hid hD3; have G3 := Lib.hid (gr_trans G2.out hg3)
  have hbx := (hg3.block w.heap.size (lt_of_blk hbx) (fun e => by injection e with e; omega)).trans hbx
  clear hD3 hg3
  obtain ⟨kb, fb⟩ := blkcell hbx
  have hbl := lt_of_blk hbx
  have hok : okB3 (z1, z2, z3) = true := okB3_mk ⟨⟨a1, by show z1 ≤ 1000000; omega⟩, ⟨a2, by show z2 ≤ 1000000; omega⟩, ⟨a3, by show z3 ≤ 1000000; omega⟩⟩
  have hok := Lib.hid hok
  have S1 := Lib.hid (fun (i : Nat) (v : Value) (x : World) (h : w.grownBy x (some g)) => (⟨h.os, h.tape, h.output, by simpa [World.setCell] using h.size, fun k hk hne => (Below.heap_setCell x ⟨w.heap.size, i, none⟩ v k (by (try dsimp only); omega)).trans (h.block k hk hne)⟩ : w.grownBy (x.setCell ⟨w.heap.size, i, none⟩ v) (some g)))
  have S2 := Lib.hid (fun (i : Nat) (v : Value) (x : World) (h : Dr W g A n c x) => (show Dr W g A n c (x.setCell ⟨w.heap.size, i, none⟩ v) from ⟨h.below.setCell (by have := HD.out.below.size; show W.heap.size ≤ w.heap.size; have := H1.out.ge; omega) _, h.ge, by obtain ⟨i', x', h1, h2⟩ := h.cur; exact ⟨i', x', h1, blk_far h2 (by show g ≠ w.heap.size; omega) _⟩⟩))
  clear hbx
  go_wp2
  refine bodyPost_ret (v := amt z1 z2 z3) (by simp [results, Try.results73, go_sem, *]) rfl ⟨(z1, z2, z3), hok.out, rfl, S2.out _ _ _ (S2.out _ _ _ (S2.out _ _ _ H3.out)), S1.out _ _ _ (S1.out _ _ _ (S1.out _ _ _ G3.out))⟩
def TreeP (W : World) (g : Nat) (A : Option Addr) (n c : Nat) (w : World) (e : Ending) (w' : World) : Prop :=
  ∃ (A' : Option Addr) (c' : Nat) (xs : List El), e = .returned (.slice A' 5 (5 + c')) ∧ xs.length = 5 ∧ OwnE w' w.heap.size A' xs ∧ Dr W g A n c w'
set_option maxHeartbeats 6400000 in
theorem l6Tree_any (W : World) (g : Nat) (A : Option Addr) (n c : Nat) (w : World) (hA : Bys W A n) (hn : n ≤ 1048576) (hd : Dr W g A n c w) :
    Calls Try.prog 69 #[.pointer (some ⟨g, 0, none⟩)] w (TreeP W g A n c w) := by
  have D := Lib.hid (fun m w' h h1 h2 => l1Below_any W g A n c m w' hA hn h1 h2 h)
  have O := Lib.hid (fun m w' h h1 h2 => l1Once_any W g A n c m w' hA hn h1 h2 h)
  have F := Lib.hid (fun w' h => l5Amt_any W g A n c w' hA hn h)
  have hgl := hd.lt
  have HD := Lib.hid hd
  clear hA hd
  go_enter Try.func69, Try.ntmps69
  go_wp2_with fail
  refine (F.out _ HD.out).mono ?_
  rintro e w1 ⟨a, hok, rfl, hD1, hg1⟩
  have H1 := Lib.hid hD1
  have hs1 := hg1.size
  have T := Lib.hid (fun w' => show Calls Try.prog 13 #[amt3 a] w' (OutB (newT a) true 5 w') from by
    have h := specTreeNew_any a w'
    rw [show treeNew a = (newT a, true) by simp [treeNew, hok]] at h
    exact h)
  clear hD1 hg1 hok
  go_wp2_with fail
  refine (T.out _).mono ?_
  rintro e w2 ⟨A0, c0, rfl, ho, hb⟩
  have H2 := Lib.hid (H1.out.bel hb)
  have hO := Lib.hid (ho.more hs1)
  have hs2 := Nat.le_trans hs1 hb.size
  clear ho hb T
  go_wp2_with fail
  refine (D.out 7 _ H2.out (by omega) (by omega)).mono ?_
  rintro e w3 ⟨z, hz0, hz1, rfl, hD3, hg3⟩
  have H3 := Lib.hid hD3
  have hO := Lib.hid (hO.out.gr hg3 hgl)
  have hs3 := Nat.le_trans hs2 hg3.size
  obtain ⟨k0, rfl⟩ := Int.eq_ofNat_of_zero_le hz0
  clear hD3 hg3
  go_wp2
  go_loopw [3, 5] (fun v i wr => ∃ (k : Nat) (A' : Option Addr) (c' : Nat) (xs : List El), k ≤ 6 ∧ i = .int .i64 k ∧ v = .slice A' 5 (5 + c') ∧ Hid (xs.length = 5) ∧ Hid (OwnE wr w.heap.size A' xs) ∧ Hid (Dr W g A n c wr) ∧ w.heap.size ≤ wr.heap.size) (fun _ i _ => (intOf i).toNat)
  case atStart => exact ⟨k0, A0, c0, newT a, by omega, rfl, rfl, rfl, hO.out, H3.out, hs3⟩
  case round =>
    obtain ⟨k, A', c', xs, hk, rfl, rfl, hlen, hown, hD, hsz⟩ := hrel
    by_cases hlt : 0 < k
    · obtain ⟨j, rfl⟩ : ∃ j, k = j + 1 := ⟨k - 1, by omega⟩
      have hlt2 : (0 : Int) < ((j + 1 : Nat) : Int) := by omega
      go_wp2_with fail
      refine (D.out 5 _ hD.out (by omega) (by omega)).mono ?_
      rintro e w4 ⟨p, hp0, hp1, rfl, hD4, hg4⟩
      have H4 := Lib.hid hD4
      have hown := Lib.hid (hown.out.gr hg4 hgl)
      have hs4 := Nat.le_trans hsz hg4.size
      clear hD4 hg4
      go_wp2_with fail
      refine (O.out 4 _ H4.out (by omega) (by omega)).mono ?_
      rintro e w5 ⟨l, rfl, hD5, hg5⟩
      have H5 := Lib.hid hD5
      have hown := Lib.hid (hown.out.gr hg5 hgl)
      have hs5 := Nat.le_trans hs4 hg5.size
      clear hD5 hg5
      cases l
      · go_wp2_with fail
        refine (D.out 8 _ H5.out (by omega) (by omega)).mono ?_
        rintro e w6 ⟨q1, hq0, hq1, rfl, hD6, hg6⟩
        have H6 := Lib.hid hD6
        have hown := Lib.hid (hown.out.gr hg6 hgl)
        have hs6 := Nat.le_trans hs5 hg6.size
        clear hD6 hg6
        go_wp2_with fail
        refine (D.out 50 _ H6.out (by omega) (by omega)).mono ?_
        rintro e w7 ⟨q2, hq0', hq1', rfl, hD7, hg7⟩
        have H7 := Lib.hid hD7
        have hown := Lib.hid (hown.out.gr hg7 hgl)
        have hs7 := Nat.le_trans hs6 hg7.size
        clear hD7 hg7
        go_wp2_with fail
        refine (D.out 9 _ H7.out (by omega) (by omega)).mono ?_
        rintro e w8 ⟨q3, hq0'', hq1'', rfl, hD8, hg8⟩
        have H8 := Lib.hid hD8
        have hown := Lib.hid (hown.out.gr hg8 hgl)
        have hs8 := Nat.le_trans hs7 hg8.size
        clear hD8 hg8
        go_wp2_with fail
        refine (specTreeSplit_any A' 5 (5 + c') xs p (q1, q2, q3) w8 hown.out.els hlen.out (by omega)).mono ?_
        rintro e w9 ⟨A2, c2, rfl, ho, hb⟩
        have H9 := Lib.hid (H8.out.bel hb)
        have hO := Lib.hid (ho.more hs8)
        have hL := Lib.hid ((treeSplit_len xs p (q1, q2, q3)).trans hlen.out)
        have hs9 := Nat.le_trans hs8 hb.size
        clear ho hb
        generalize (treeSplit xs p (q1, q2, q3)).2.1 = y1 at hO hL ⊢
        generalize (treeSplit xs p (q1, q2, q3)).2.2 = y2 at hO hL ⊢
        go_wp2
        exact ⟨⟨j, A2, c2, _, by omega, by go_num, rfl, hL, hO, H9, hs9⟩, by simp [intOf]⟩
      · go_wp2_with fail
        refine (specTreeDrop_any A' 5 (5 + c') xs p w5 hown.out.els hlen.out (by omega)).mono ?_
        rintro e w9 ⟨A2, c2, rfl, ho, hb⟩
        have H9 := Lib.hid (H5.out.bel hb)
        have hO := Lib.hid (ho.more hs5)
        have hL := Lib.hid ((treeDrop_len xs p).trans hlen.out)
        have hs9 := Nat.le_trans hs5 hb.size
        clear ho hb
        generalize (treeDrop xs p).2 = y2 at hO hL ⊢
        go_wp2
        exact ⟨⟨j, A2, c2, _, by omega, by go_num, rfl, hL, hO, H9, hs9⟩, by simp [intOf]⟩
    · obtain rfl : k = 0 := by omega
      go_wp2
      go_ret
      exact ⟨A', c', xs, rfl, hlen.out, hown.out, hD.out⟩
def AnyE (W : World) (g : Nat) (A : Option Addr) (n c : Nat) (w : World) (e : Ending) (w' : World) : Prop :=
  ∃ (A' : Option Addr) (m c' : Nat) (xs : List El), e = .returned (.slice A' m c') ∧ xs.length = m ∧ m ≤ 5 ∧ OwnE w' w.heap.size A' xs ∧ Dr W g A n c w'
set_option maxHeartbeats 6400000 in
theorem l6Any_any (W : World) (g : Nat) (A : Option Addr) (n c : Nat) (w : World) (hA : Bys W A n) (hn : n ≤ 1048576) (hd : Dr W g A n c w) :
    Calls Try.prog 61 #[.pointer (some ⟨g, 0, none⟩)] w (AnyE W g A n c w) := by
  have D := Lib.hid (fun m w' h h1 h2 => l1Below_any W g A n c m w' hA hn h1 h2 h)
  have T := Lib.hid (fun w' h => l6Tree_any W g A n c w' hA hn h)
  have E := Lib.hid (fun b w' h h1 h2 => l1PickInt_any W g A n c [-1, 1000001, 1000000] b 3 3 w' hA hn h rfl (by omega) (by omega) h1 h2)
  have hgl := hd.lt
  have hWw := hd.below.size
  have HD := Lib.hid hd
  clear hA hd
  go_enter Try.func61, Try.ntmps61
  go_wp2_with fail
  refine (T.out _ HD.out).mono ?_
  rintro e w1 ⟨A', c', xs, rfl, hlen, ho, hD1⟩
  obtain ⟨cap, hce⟩ : ∃ cap, 5 + c' = cap := ⟨_, rfl⟩
  rw [hce]
  have hcap : (5 : Int) ≤ (cap : Int) := by omega
  have H1 := Lib.hid hD1
  have hO := Lib.hid ho
  have hL := Lib.hid hlen
  clear hlen ho hD1 hce
  go_wp2_with fail
  refine (D.out 5 _ H1.out (by omega) (by omega)).mono ?_
  rintro e w2 ⟨z, hz0, hz1, rfl, hD2, hg2⟩
  have H2 := Lib.hid hD2
  have hO := Lib.hid (hO.out.gr hg2 hgl)
  clear hD2 hg2
  obtain ⟨k, rfl⟩ := Int.eq_ofNat_of_zero_le hz0
  have hk5 : k < 5 := by omega
  go_wp2_with fail
  refine (D.out 20 _ H2.out (by omega) (by omega)).mono ?_
  rintro e w3 ⟨y, hy0, hy1, rfl, hD3, hg3⟩
  have H3 := Lib.hid hD3
  have hO := Lib.hid (hO.out.gr hg3 hgl)
  clear hD3 hg3
  obtain ⟨gO, rfl, hgO, hob⟩ := hO.out.ob hL.out
  have hB := Lib.hid hob
  obtain ⟨x, hx⟩ : ∃ x, xs[k]? = some x := ⟨_, List.getElem?_eq_getElem (by have := hL.out; omega)⟩
  have hX := Lib.hid hx
  clear hob hx
  by_cases h0 : y = 0
  · subst h0
    have hc1 : (k : Int) ≤ (cap : Int) := by omega
    go_wp2
    go_ret
    exact ⟨_, k, _, xs.take k, rfl, by have := hL.out; simp; omega, by omega, hO.out.take_ k, H3.out⟩
  · have e0 : (y == (0 : Int)) = false := by simpa using h0
    by_cases h1 : y = 1
    · subst h1
      clear h0
      go_wp2_with fail
      refine (D.out 7 _ H3.out (by omega) (by omega)).mono ?_
      rintro e w4 ⟨p, hp0, hp1, rfl, hD4, hg4⟩
      have H4 := Lib.hid hD4
      have hB := Lib.hid (hB.out.gr hg4 (by omega))
      clear hD4 hg4
      obtain ⟨c0, c1, c2, c3, c4⟩ := hB.out.at_ hX.out
      have hf := hB.out.fro
      have hBn := Lib.hid ((hB.out.setPar hX.out (p - 1)).own hgO)
      have hDn := Lib.hid (H4.out.set_ (b := gO) (by omega) (by omega) (k * 5 + 1) (.int .i64 (p - 1)))
      go_wp2
      go_ret
      exact ⟨_, 5, _, _, rfl, by have := hL.out; simp; omega, by omega, hBn.out, hDn.out⟩
    · have e1 : (y == (1 : Int)) = false := by simpa using h1
      by_cases h2 : y = 2
      · subst h2
        clear h0 h1
        obtain ⟨c0, c1, c2, c3, c4⟩ := hB.out.at_ hX.out
        have hf := hB.out.fro
        have hBn := Lib.hid ((hB.out.setLive hX.out (!x.1)).own hgO)
        have hDn := Lib.hid (H3.out.set_ (b := gO) (by omega) (by omega) (k * 5) (.bool (!x.1)))
        go_wp2
        go_ret
        exact ⟨_, 5, _, _, rfl, by have := hL.out; simp; omega, by omega, hBn.out, hDn.out⟩
      · have e2 : (y == (2 : Int)) = false := by simpa using h2
        by_cases h3 : y = 3
        · subst h3
          clear h0 h1 h2
          go_wp2_with fail
          refine (E.out _ _ (H3.out.al _) (by have := H3.out.lt; omega) (lits w3 _ _ [-1, 1000001, 1000000] rfl)).mono ?_
          rintro e w4 ⟨p, hp, rfl, hD4, hg4⟩
          have H4 := Lib.hid hD4
          have hB := Lib.hid ((hB.out.alloc _).gr hg4 (by omega))
          clear hD4 hg4 hp
          obtain ⟨c0, c1, c2, c3, c4⟩ := hB.out.at_ hX.out
          have hf := hB.out.fro
          have hBn := Lib.hid ((hB.out.setRent hX.out p).own hgO)
          have hDn := Lib.hid (H4.out.set_ (b := gO) (by omega) (by omega) (k * 5 + 3) (.int .i64 p))
          go_wp2
          go_ret
          exact ⟨_, 5, _, _, rfl, by have := hL.out; simp; omega, by omega, hBn.out, hDn.out⟩
        · have e3 : (y == (3 : Int)) = false := by simpa using h3
          clear h0 h1 h2 h3
          go_wp2
          go_ret
          exact ⟨_, 5, _, xs, rfl, hL.out, by omega, hB.out.own hgO, H3.out⟩
def DrTS (W : World) (e : Ending) (w' : World) : Prop :=
  ∃ (A' : Option Addr) (m c' : Nat) (xs : List El) (i : Int) (a : B3), e = .returned (.tuple #[.slice A' m c', .int .i64 i, amt3 a]) ∧ xs.length = m ∧ m ≤ 5 ∧ Els w' A' xs ∧ Below W.heap.size W w'
set_option maxHeartbeats 6400000 in
theorem DrawTreeSplit_any (A : Option Addr) (n c : Nat) (w : World) (hA : Bys w A n) (hn : n ≤ 1048576) :
    Calls Try.prog 42 #[.slice A n c] w (DrTS w) := by
  have N := Lib.hid (fun w' h => l1New_any A n c w' h hn)
  have hA2 := hA.keep (fun _ _ h => cell_alloc_ (o := .cells #[.int .i64 0, .int .i64 0, .int .i64 0] 27) h)
  have L := Lib.hid (fun g w' h => l6Any_any (w.alloc (.cells #[.int .i64 0, .int .i64 0, .int .i64 0] 27)) g A n c w' hA2 hn h)
  have D := Lib.hid (fun g m w' h h1 h2 => l1Below_any (w.alloc (.cells #[.int .i64 0, .int .i64 0, .int .i64 0] 27)) g A n c m w' hA2 hn h1 h2 h)
  have HA := Lib.hid hA2
  have hbx := Lib.hid (heap_alloc_new w (.cells #[.int .i64 0, .int .i64 0, .int .i64 0] 27))
  clear hA hA2
  go_enter Try.func42, Try.ntmps42
  go_wp2_with fail
  refine (N.out _ HA.out).mono ?_
  rintro e w1 ⟨g, rfl, hD⟩
  have HD := Lib.hid hD
  have hgW := hD.ge
  have hgl := hD.lt
  have hbx := Lib.hid (keepblk hD.below hbx.out)
  clear hD
  go_wp2_with fail
  refine (L.out _ _ HD.out).mono ?_
  rintro e w2 ⟨A', m, c', xs, rfl, hlen, hm, ho, hD2⟩
  have H2 := Lib.hid hD2
  have hO := Lib.hid ho
  have hL := Lib.hid hlen
  clear hlen ho hD2
  go_wp2_with fail
  refine (D.out _ 7 _ H2.out (by omega) (by omega)).mono ?_
  rintro e w3 ⟨i, hi0, hi1, rfl, hD3, hg3⟩
  have H3 := Lib.hid hD3
  have hO := Lib.hid (hO.out.gr hg3 hgl)
  clear hD3 hg3
  go_wp2_with fail
  refine (D.out _ 9 _ H3.out (by omega) (by omega)).mono ?_
  rintro e w4 ⟨q1, hq0, hq1, rfl, hD4, hg4⟩
  have H4 := Lib.hid hD4
  have hO := Lib.hid (hO.out.gr hg4 hgl)
  clear hD4 hg4
  go_wp2_with fail
  refine (D.out _ 60 _ H4.out (by omega) (by omega)).mono ?_
  rintro e w5 ⟨q2, hq0', hq1', rfl, hD5, hg5⟩
  have H5 := Lib.hid hD5
  have hO := Lib.hid (hO.out.gr hg5 hgl)
  clear hD5 hg5
  go_wp2_with fail
  refine (D.out _ 9 _ H5.out (by omega) (by omega)).mono ?_
  rintro e w6 ⟨q3, hq0'', hq1'', rfl, hD6, hg6⟩
  have H6 := Lib.hid hD6
  have hO := Lib.hid (hO.out.gr hg6 hgl)
  have hbx := Lib.hid (keepblk hD6.below (heap_alloc_new w (.cells #[.int .i64 0, .int .i64 0, .int .i64 0] 27)))
  have hB := Lib.hid (Below.trans ((Below.refl w.heap.size w).alloc (Nat.le_refl _) _) (hD6.below.mono (by simp)))
  have hlt : w.heap.size < w1.heap.size := by have := hD6.ge; simp at this; omega
  clear hD6 hg6
  obtain ⟨kb, fb⟩ := blkcell hbx.out
  have hbl := lt_of_blk hbx.out
  have hOn := Lib.hid (((hO.out.far (p := ⟨w.heap.size, 0, none⟩) hlt (.int .i64 q1)).far (p := ⟨w.heap.size, 1, none⟩) hlt (.int .i64 q2)).far (p := ⟨w.heap.size, 2, none⟩) hlt (.int .i64 q3)).els
  have hBn := Lib.hid (((hB.out.setCell (p := ⟨w.heap.size, 0, none⟩) (Nat.le_refl _) (.int .i64 q1)).setCell (p := ⟨w.heap.size, 1, none⟩) (Nat.le_refl _) (.int .i64 q2)).setCell (p := ⟨w.heap.size, 2, none⟩) (Nat.le_refl _) (.int .i64 q3))
  go_wp2
  refine bodyPost_ret (v := .tuple #[.slice A' m c', .int .i64 (i - 1), amt q1 q2 q3]) (by simp [results, Try.results42, go_sem, *]) rfl ?_
  exact ⟨A', m, c', xs, i - 1, (q1, q2, q3), rfl, hL.out, hm, hOn.out, hBn.out⟩

end Go.Proofs.Ytdgkfpcecppfdaa
