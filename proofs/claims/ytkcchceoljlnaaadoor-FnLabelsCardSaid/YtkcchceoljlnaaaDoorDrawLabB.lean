/- Contracts of the draws of labels. -/
import Derived.Test.YtkcchceoljlnaaaDoorDrawLabA
namespace Go.Proofs.YtkcchceoljlnaaaDoor
set_option linter.unusedSimpArgs false
set_option linter.unusedVariables false
open Go.RowKit
attribute [local go_sem ↓] Go.wp_at_zero Go.wp_at_succ

theorem OBI.gr {w w' : World} {gl g : Nat} {xs : List Int} (h : OBI w gl xs) (hg : w.grownBy w' (some g)) (hne : gl ≠ g) : OBI w' gl xs := by
  obtain ⟨full, hh, hp⟩ := h
  exact ⟨full, blk_gr hg hh hne, hp⟩
theorem OBI.take_ {w : World} {g : Nat} {xs : List Int} (h : OBI w g xs) (k : Nat) : OBI w g (xs.take k) := by
  obtain ⟨full, hh, hp⟩ := h
  refine ⟨full, hh, fun j v hj => hp j v ?_⟩
  rw [List.map_take, List.getElem?_take] at hj
  split at hj
  · exact hj
  · cases hj
theorem own_setBox {w : World} {B b : Nat} {t : TypeId} {A : Option Addr} {cs : List Value} (h : Own w B t A cs) (hne : ∀ q : Addr, A = some q → q.block ≠ b) (u : Value) : Own (w.setCell ⟨b, 0, none⟩ u) B t A cs := by
  rcases h with h | ⟨g, full, rfl, h1, hh, h2⟩
  · exact .inl h
  · exact .inr ⟨g, full, rfl, h1, blk_far hh (p := ⟨b, 0, none⟩) (hne _ rfl) u, h2⟩
theorem lit2 {x : World} {gn : Nat} (hgn : x.heap[gn]? = some (.cells #[.int .i64 (-1), .int .i64 4] 3 (0, 0))) : ∀ k z, ([-1, 4] : List Int)[k]? = some z → x.cell? ⟨gn, k, none⟩ = some (.int .i64 z) := by
  intro k z hz
  rw [(blkcell hgn).1]
  match k, hz with
  | 0, hz => simp at hz; subst hz; rfl
  | 1, hz => simp at hz; subst hz; rfl
theorem set_all {xs : List Int} {k : Nat} {y : Int} (h : ∀ x ∈ xs, 0 ≤ x ∧ x < 4) (hy : y ∈ ([-1, 4] : List Int)) : ∀ x ∈ xs.set k y, -1 ≤ x ∧ x ≤ 4 := by
  intro z hz
  rcases List.mem_or_eq_of_mem_set hz with h1 | rfl
  · have := h z h1; omega
  · simp at hy; omega
def DrA (W : World) (g : Nat) (A : Option Addr) (n c : Nat) (w : World) (e : Ending) (w' : World) : Prop :=
  ∃ (A' : Option Addr) (c' : Nat) (xs : List Int), e = .returned (lab A' xs.length c') ∧ xs.length ≤ 5 ∧ (∀ x ∈ xs, -1 ≤ x ∧ x ≤ 4) ∧ Own w' w.heap.size 3 A' (xs.map (Value.int .i64)) ∧ Dr W g A n c w' ∧ w.grownBy w' (some g)
set_option maxHeartbeats 12800000 in
theorem l3Any_any (W : World) (g : Nat) (A : Option Addr) (n c : Nat) (w : World) (hA : Bys W A n) (hn : n ≤ 1048576) (hd : Dr W g A n c w) :
    Calls Tryd.prog 35 #[.pointer (some ⟨g, 0, none⟩)] w (DrA W g A n c w) := by
  have D := Lib.hid (fun m w' h h1 h2 => l1Below_any W g A n c m w' hA hn h1 h2 h)
  have E := Lib.hid (fun b w' h h1 h2 => l1PickInt_any W g A n c [-1, 4] b 2 2 w' hA hn h rfl (by omega) (by omega) h1 h2)
  have F := Lib.hid (fun w' h => l3Label_any W g A n c w' hA hn h)
  obtain ⟨i0, hi, hz0_, hz1_, hz2_⟩ := info_parts int_info
  have hgl := hd.lt
  have hWw := hd.below.size
  have HD := Lib.hid (hd.al (.cells #[.slice none 0 0] 27))
  clear hA hd
  go_enter Tryd.func35, Tryd.ntmps35
  go_wp2_with fail
  refine (F.out _ HD.out).mono ?_
  rintro e w2 ⟨v, xs, rfl, hlen, hxs, hown, hd2, hg2⟩
  have hxs := Lib.hid hxs
  simp only [World.size_alloc] at hown
  have hs2 := hg2.size
  simp only [World.size_alloc] at hs2
  obtain ⟨gl, cap, rfl, hcap, hgl1⟩ : ∃ gl cap, v = .slice (some ⟨gl, 0, none⟩) 4 cap ∧ 4 ≤ cap ∧ w.heap.size + 1 ≤ gl := by
    rcases hown.2 with ⟨_, h⟩ | ⟨gl, cap, cur, hv, hb, _, hc, _⟩
    · omega
    · exact ⟨gl, cap, hv, hc, hb⟩
  have r2 := Lib.hid (blk_alloc (O := .cells #[.slice (some ⟨gl, 0, none⟩) 4 cap] 27) (blk_gr hg2 (heap_alloc_new w _) (by omega)))
  have r3 := Lib.hid (heap_alloc_new w2 (.cells #[.slice (some ⟨gl, 0, none⟩) 4 cap] 27))
  have hgl2 := (hown.lt gl rfl).2
  have hown := Lib.hid (hown.alloc (.cells #[.slice (some ⟨gl, 0, none⟩) 4 cap] 27))
  have H2 := Lib.hid (hd2.al (.cells #[.slice (some ⟨gl, 0, none⟩) 4 cap] 27))
  have G2 := Lib.hid (gr_alloc (gr_trans (gr_alloc (gr_refl w (some g)) _) hg2) (.cells #[.slice (some ⟨gl, 0, none⟩) 4 cap] 27))
  clear hd2 hg2
  go_wp2_with fail
  refine (D.out 14 _ H2.out (by omega) (by omega)).mono ?_
  rintro e w3 ⟨z, hz0', hz1', rfl, hD3, hg3⟩
  have H3 := Lib.hid hD3; have G3 := Lib.hid (gr_trans G2.out hg3); have hown := Lib.hid (ownsRow_gr hown.out hg3 (by omega))
  have r2 := Lib.hid (blk_gr hg3 r2.out (by omega)); have r3 := Lib.hid (blk_gr hg3 r3.out (by omega))
  have hs3 := hg3.size
  simp only [World.size_alloc] at hs3
  clear hD3 hg3
  have hob : Hid (OBI w3 gl xs) := by
    obtain ⟨A', c', e1, ho⟩ := own_of_row hown.out
    injection e1 with e1 e2 e3
    subst e1
    obtain ⟨g', e4, _, h⟩ := own_obi ho (by rintro rfl; simp at hlen)
    injection e4 with e4
    injection e4 with e4
    subst e4
    exact Lib.hid h
  have q0 : w.heap.size < w3.heap.size := by omega
  have q2 : w2.heap.size < w3.heap.size := by omega
  obtain ⟨kb, fb⟩ := blkcell r3.out
  obtain ⟨kb0, fb0⟩ := blkcell r2.out
  by_cases h0 : z = 0
  · subst h0
    clear hown
    go_upto_region 4 with (fail)
    go_region_with (go_at_call 37; refine (D.out 4 _ (by exact H3.out.bel ((Below.refl _ _).drew)) (by omega) (by omega)).mono ?_; rintro e x2 ⟨zk, hk0, hk1, rfl, hD, hg⟩; have r2 := Lib.hid (blk_gr hg (show w3.drew.heap[_]? = _ from r2.out) (by omega)); have r3 := Lib.hid (blk_gr hg (show w3.drew.heap[_]? = _ from r3.out) (by omega)); have hob := Lib.hid ((show OBI w3.drew gl xs from hob.out).gr hg (by omega)); have H3 := Lib.hid hD; have G3 := Lib.hid (gr_trans (gr_drewN G3.out 1) hg); have hs9 := hg.size; clear hD hg; obtain ⟨k9, rfl⟩ := Int.eq_ofNat_of_zero_le hk0; obtain ⟨k5, f5⟩ := blkcell r3.out; have hcc : (k9 : Int) ≤ (cap : Int) := (by omega); have q3 : w2.heap.size < x2.heap.size := (by have hs9' : w3.heap.size ≤ x2.heap.size := hs9; omega))
    all_goals
      have r3n := blk_set (i := 0) r3.out (.slice (some ⟨gl, 0, none⟩) k9 cap)
      have r2n := blk_far (p := ⟨w2.heap.size, 0, none⟩) r2.out (by show w.heap.size ≠ w2.heap.size; omega) (.slice (some ⟨gl, 0, none⟩) k9 cap)
      have hD6 := H3.out.set_ (b := w2.heap.size) (by omega) (by omega) 0 (.slice (some ⟨gl, 0, none⟩) k9 cap)
      have hG6 := gr_setF G3.out (p := ⟨w2.heap.size, 0, none⟩) (by show w.heap.size ≤ w2.heap.size; omega) (.slice (some ⟨gl, 0, none⟩) k9 cap)
      have hO6 := (hob.out.far (p := ⟨w2.heap.size, 0, none⟩) (by show gl ≠ w2.heap.size; omega) (.slice (some ⟨gl, 0, none⟩) k9 cap)).take_ k9
      have hs6 : x2.heap.size ≤ (x2.setCell ⟨w2.heap.size, 0, none⟩ (.slice (some ⟨gl, 0, none⟩) k9 cap)).heap.size := by simp
      have hs9' : w3.heap.size ≤ x2.heap.size := hs9
      clear kb fb kb0 fb0 k5 f5
      generalize x2.setCell ⟨w2.heap.size, 0, none⟩ (.slice (some ⟨gl, 0, none⟩) k9 cap) = Y at r3n r2n hD6 hG6 hO6 hs6 ⊢
      have r3 := Lib.hid r3n; have r2 := Lib.hid r2n; have hD6 := Lib.hid hD6; have hG6 := Lib.hid hG6; have hO6 := Lib.hid hO6
      clear r3n r2n
      have q0 : w.heap.size < Y.heap.size := by omega
      have q2 : w2.heap.size < Y.heap.size := by omega
      obtain ⟨kb, fb⟩ := blkcell r3.out
      obtain ⟨kb0, fb0⟩ := blkcell r2.out
      have HOF := Lib.hid ((hO6.out.own hgl1).setFar (p := ⟨w.heap.size, 0, none⟩) (by show w.heap.size < w.heap.size + 1; omega) (.slice (some ⟨gl, 0, none⟩) (k9) cap))
      have HDF := Lib.hid (hD6.out.set_ (b := w.heap.size) (by omega) (by omega) 0 (.slice (some ⟨gl, 0, none⟩) (k9) cap))
      have HGF := Lib.hid (gr_setF hG6.out (p := ⟨w.heap.size, 0, none⟩) (by show w.heap.size ≤ w.heap.size; omega) (.slice (some ⟨gl, 0, none⟩) (k9) cap))
      go_wp2
      refine bodyPost_ret (v := lab (some ⟨gl, 0, none⟩) (k9) cap) (by simp [results, Tryd.results35, go_sem, *]) rfl ?_
      exact ⟨_, _, xs.take k9, by rw [show (xs.take k9).length = k9 from by simp; omega], by rw [show (xs.take k9).length = k9 from by simp; omega]; omega, (fun y hy => by have := hxs.out y (List.mem_of_mem_take hy); omega), HOF.out.more (by omega), HDF.out, HGF.out⟩
  · have e0 : (z == (0 : Int)) = false := by simpa using h0
    by_cases h1 : z = 1
    · subst h1
      go_upto_region 6 with (fail)
      clear kb fb kb0 fb0
      refine wp_region_fr (U := Value × Value × Value × Value × Value × Value × Value × Value) [[], [0], [], [2], [], [], [4, 5, 3], [1, 3, 0, 1, 2, 3, 4, 5, 6], [7, 6, 6, 0, 1, 2, 3, 4, 5, 6]] (fun u => match u with | (u18, u19, u20, u21, u22, u23, u24, u25) => [(18, u18), (19, u19), (20, u20), (21, u21), (22, u22), (23, u23), (24, u24), (25, u25)]) (undef, undef, undef, undef, undef, undef, undef, undef) (fun l u x => match u with | (u18, u19, u20, u21, u22, u23, u24, u25) => (x.heap[w.heap.size]? = some (.cells #[.slice none 0 0] 27 (0, 0))) ∧ (x.heap[w2.heap.size]? = some (.cells #[.slice (some ⟨gl, 0, none⟩) 4 cap] 27 (0, 0))) ∧ Hid (l.getD 8 false = false → OBI x gl xs) ∧ (Dr W g A n c x) ∧ (w.grownBy x (some g)) ∧ (w3.heap.size ≤ x.heap.size) ∧ Hid (l.getD 8 false = true → AllOn l [7, 6, 6, 0, 1, 2, 3, 4, 5, 6]) ∧ Hid (l.getD 0 false = true → u18 = .pointer (some ⟨w2.heap.size, 0, none⟩)) ∧ Hid (l.getD 1 false = true → u19 = .slice (some ⟨gl, 0, none⟩) 4 cap) ∧ Hid (l.getD 2 false = true → u20 = .pointer (some ⟨g, 0, none⟩)) ∧ Hid (l.getD 3 false = true → ∃ k : Nat, k < 4 ∧ u21 = .int .i64 k) ∧ Hid (l.getD 4 false = true → u22 = .pointer (some ⟨g, 0, none⟩)) ∧ Hid (l.getD 5 false = true → ∃ ga : Nat, u23 = .slice (some ⟨ga, 0, none⟩) 2 2 ∧ w3.heap.size ≤ ga ∧ x.heap[ga]? = some (.cells #[.int .i64 (-1), .int .i64 4] 3 (0, 0))) ∧ Hid (l.getD 6 false = true → ∃ y : Int, y ∈ ([-1, 4] : List Int) ∧ u24 = .int .i64 y) ∧ Hid (l.getD 7 false = true → ∃ k : Nat, k < 4 ∧ u25 = .pointer (some ⟨gl, k, none⟩)) ∧ Hid (l.getD 8 false = true → l.getD 3 false = true ∧ (l.getD 5 false = true ∧ (l.getD 6 false = true ∧ (∃ ys : List Int, ys.length = 4 ∧ (∀ y ∈ ys, -1 ≤ y ∧ y ≤ 4) ∧ OBI x gl ys))))) (by kernel_rfl) (by kernel_rfl) ?_ ?_ ?_ ?_
      · kernel_rfl
      · exact ⟨(by exact r2.out), (by exact r3.out), (fun _ => by exact hob.out), (by exact H3.out.bel ((Below.refl _ _).drew)), (by exact gr_drewN G3.out 1), (Nat.le_refl _), fun h => repl_off h, fun h => repl_off h, fun h => repl_off h, fun h => repl_off h, fun h => repl_off h, fun h => repl_off h, fun h => repl_off h, fun h => repl_off h, fun h => repl_off h, fun h => repl_off h⟩
      · refine ⟨?_, ?_, ?_, ?_, ?_, ?_, ?_, ?_, ?_, trivial⟩
        · refine ⟨rfl, ?_⟩
          rintro l ⟨u18, u19, u20, u21, u22, u23, u24, u25⟩ x ⟨r2, r3, ho, hd, hG, hsx, HL, g0, g1, g2, g3, g4, g5, g6, g7, g8⟩ hun hpre K hK
          have ho := ho.out (last_off HL (i := 0) (by decide) hun)
          clear hpre
          refine ⟨?_⟩
          simp only [Prod.forall, putAll, List.setIfInBounds_toArray, List.set_cons_zero, List.set_cons_succ] at hK ⊢
          go_simp
          exact hK _ _ _ _ _ _ _ _ _ ⟨r2, r3, fun _ => ho, hd, hG, hsx, fun h => allOn_keep (HL.out (on_set_other (by decide) h)), fun _ => rfl, fun h => g1.out (on_set_other (by decide) h), fun h => g2.out (on_set_other (by decide) h), fun h => g3.out (on_set_other (by decide) h), fun h => g4.out (on_set_other (by decide) h), fun h => g5.out (on_set_other (by decide) h), fun h => g6.out (on_set_other (by decide) h), fun h => g7.out (on_set_other (by decide) h), fun h => (fun ⟨o3, o5, o6, h2⟩ => ⟨on_keep o3, on_keep o5, on_keep o6, h2⟩) (g8.out (on_set_other (by decide) h))⟩
        · refine ⟨rfl, ?_⟩
          rintro l ⟨u18, u19, u20, u21, u22, u23, u24, u25⟩ x ⟨r2, r3, ho, hd, hG, hsx, HL, g0, g1, g2, g3, g4, g5, g6, g7, g8⟩ hun hpre K hK
          have ho := ho.out (last_off HL (i := 1) (by decide) hun)
          obtain ⟨e0, -⟩ := hpre
          obtain rfl := g0.out e0
          refine ⟨?_⟩
          simp only [Prod.forall, putAll, List.setIfInBounds_toArray, List.set_cons_zero, List.set_cons_succ] at hK ⊢
          obtain ⟨kq, fq⟩ := blkcell r3
          go_simp
          exact hK _ _ _ _ _ _ _ _ _ ⟨r2, r3, fun _ => ho, hd, hG, hsx, fun h => allOn_keep (HL.out (on_set_other (by decide) h)), fun h => g0.out (on_set_other (by decide) h), fun _ => rfl, fun h => g2.out (on_set_other (by decide) h), fun h => g3.out (on_set_other (by decide) h), fun h => g4.out (on_set_other (by decide) h), fun h => g5.out (on_set_other (by decide) h), fun h => g6.out (on_set_other (by decide) h), fun h => g7.out (on_set_other (by decide) h), fun h => (fun ⟨o3, o5, o6, h2⟩ => ⟨on_keep o3, on_keep o5, on_keep o6, h2⟩) (g8.out (on_set_other (by decide) h))⟩
        · refine ⟨rfl, ?_⟩
          rintro l ⟨u18, u19, u20, u21, u22, u23, u24, u25⟩ x ⟨r2, r3, ho, hd, hG, hsx, HL, g0, g1, g2, g3, g4, g5, g6, g7, g8⟩ hun hpre K hK
          have ho := ho.out (last_off HL (i := 2) (by decide) hun)
          clear hpre
          refine ⟨?_⟩
          simp only [Prod.forall, putAll, List.setIfInBounds_toArray, List.set_cons_zero, List.set_cons_succ] at hK ⊢
          go_simp
          exact hK _ _ _ _ _ _ _ _ _ ⟨r2, r3, fun _ => ho, hd, hG, hsx, fun h => allOn_keep (HL.out (on_set_other (by decide) h)), fun h => g0.out (on_set_other (by decide) h), fun h => g1.out (on_set_other (by decide) h), fun _ => rfl, fun h => g3.out (on_set_other (by decide) h), fun h => g4.out (on_set_other (by decide) h), fun h => g5.out (on_set_other (by decide) h), fun h => g6.out (on_set_other (by decide) h), fun h => g7.out (on_set_other (by decide) h), fun h => (fun ⟨o3, o5, o6, h2⟩ => ⟨on_keep o3, on_keep o5, on_keep o6, h2⟩) (g8.out (on_set_other (by decide) h))⟩
        · refine ⟨rfl, ?_⟩
          rintro l ⟨u18, u19, u20, u21, u22, u23, u24, u25⟩ x ⟨r2, r3, ho, hd, hG, hsx, HL, g0, g1, g2, g3, g4, g5, g6, g7, g8⟩ hun hpre K hK
          have ho := ho.out (last_off HL (i := 3) (by decide) hun)
          obtain ⟨e2, -⟩ := hpre
          obtain rfl := g2.out e2
          refine ⟨?_⟩
          simp only [Prod.forall, putAll, List.setIfInBounds_toArray, List.set_cons_zero, List.set_cons_succ] at hK ⊢
          go_simp
          refine (D.out 4 _ hd (by omega) (by omega)).mono ?_
          rintro e x2 ⟨z, hz0, hz1, rfl, hd2, hg⟩
          obtain ⟨k, rfl⟩ := Int.eq_ofNat_of_zero_le hz0
          exact hK _ _ _ _ _ _ _ _ _ ⟨blk_gr hg (r2) (by omega), blk_gr hg (r3) (by omega), fun _ => (ho).gr hg (by omega), hd2, gr_trans (hG) hg, (Nat.le_trans hsx hg.size), fun h => allOn_keep (HL.out (on_set_other (by decide) h)), fun h => g0.out (on_set_other (by decide) h), fun h => g1.out (on_set_other (by decide) h), fun h => g2.out (on_set_other (by decide) h), fun _ => ⟨k, by omega, rfl⟩, fun h => g4.out (on_set_other (by decide) h), fun h => (fun ⟨g, h1, h2, h3⟩ => ⟨g, h1, h2, blk_gr hg h3 (by omega)⟩) (g5.out (on_set_other (by decide) h)), fun h => g6.out (on_set_other (by decide) h), fun h => g7.out (on_set_other (by decide) h), fun h => off_of_on hun (g8.out (on_set_other (by decide) h)).1⟩
        · refine ⟨rfl, ?_⟩
          rintro l ⟨u18, u19, u20, u21, u22, u23, u24, u25⟩ x ⟨r2, r3, ho, hd, hG, hsx, HL, g0, g1, g2, g3, g4, g5, g6, g7, g8⟩ hun hpre K hK
          have ho := ho.out (last_off HL (i := 4) (by decide) hun)
          clear hpre
          refine ⟨?_⟩
          simp only [Prod.forall, putAll, List.setIfInBounds_toArray, List.set_cons_zero, List.set_cons_succ] at hK ⊢
          go_simp
          exact hK _ _ _ _ _ _ _ _ _ ⟨r2, r3, fun _ => ho, hd, hG, hsx, fun h => allOn_keep (HL.out (on_set_other (by decide) h)), fun h => g0.out (on_set_other (by decide) h), fun h => g1.out (on_set_other (by decide) h), fun h => g2.out (on_set_other (by decide) h), fun h => g3.out (on_set_other (by decide) h), fun _ => rfl, fun h => g5.out (on_set_other (by decide) h), fun h => g6.out (on_set_other (by decide) h), fun h => g7.out (on_set_other (by decide) h), fun h => (fun ⟨o3, o5, o6, h2⟩ => ⟨on_keep o3, on_keep o5, on_keep o6, h2⟩) (g8.out (on_set_other (by decide) h))⟩
        · refine ⟨rfl, ?_⟩
          rintro l ⟨u18, u19, u20, u21, u22, u23, u24, u25⟩ x ⟨r2, r3, ho, hd, hG, hsx, HL, g0, g1, g2, g3, g4, g5, g6, g7, g8⟩ hun hpre K hK
          have ho := ho.out (last_off HL (i := 5) (by decide) hun)
          clear hpre
          refine ⟨?_⟩
          simp only [Prod.forall, putAll, List.setIfInBounds_toArray, List.set_cons_zero, List.set_cons_succ] at hK ⊢
          go_simp
          exact hK _ _ _ _ _ _ _ _ _ ⟨blk_alloc (r2), blk_alloc (r3), fun _ => (ho).alloc _, (hd).al _, gr_alloc (hG) _, (Nat.le_trans hsx (by simp)), fun h => allOn_keep (HL.out (on_set_other (by decide) h)), fun h => g0.out (on_set_other (by decide) h), fun h => g1.out (on_set_other (by decide) h), fun h => g2.out (on_set_other (by decide) h), fun h => g3.out (on_set_other (by decide) h), fun h => g4.out (on_set_other (by decide) h), fun _ => ⟨_, rfl, hsx, heap_alloc_new x _⟩, fun h => g6.out (on_set_other (by decide) h), fun h => g7.out (on_set_other (by decide) h), fun h => off_of_on hun (g8.out (on_set_other (by decide) h)).2.1⟩
        · refine ⟨rfl, ?_⟩
          rintro l ⟨u18, u19, u20, u21, u22, u23, u24, u25⟩ x ⟨r2, r3, ho, hd, hG, hsx, HL, g0, g1, g2, g3, g4, g5, g6, g7, g8⟩ hun hpre K hK
          have ho := ho.out (last_off HL (i := 6) (by decide) hun)
          obtain ⟨e4, e5, e3, -⟩ := hpre
          obtain ⟨k, hk, rfl⟩ := g3.out e3
          obtain rfl := g4.out e4
          obtain ⟨gn, rfl, hgl3, hgn⟩ := g5.out e5
          refine ⟨?_⟩
          simp only [Prod.forall, putAll, List.setIfInBounds_toArray, List.set_cons_zero, List.set_cons_succ] at hK ⊢
          go_simp
          refine (E.out gn _ hd (by omega) (lit2 hgn)).mono ?_
          rintro e x2 ⟨y, hy, rfl, hd2, hg⟩
          exact hK _ _ _ _ _ _ _ _ _ ⟨blk_gr hg (r2) (by omega), blk_gr hg (r3) (by omega), fun _ => (ho).gr hg (by omega), hd2, gr_trans (hG) hg, (Nat.le_trans hsx hg.size), fun h => allOn_keep (HL.out (on_set_other (by decide) h)), fun h => g0.out (on_set_other (by decide) h), fun h => g1.out (on_set_other (by decide) h), fun h => g2.out (on_set_other (by decide) h), fun h => g3.out (on_set_other (by decide) h), fun h => g4.out (on_set_other (by decide) h), fun h => (fun ⟨g, h1, h2, h3⟩ => ⟨g, h1, h2, blk_gr hg h3 (by omega)⟩) (g5.out (on_set_other (by decide) h)), fun _ => ⟨y, hy, rfl⟩, fun h => g7.out (on_set_other (by decide) h), fun h => off_of_on hun (g8.out (on_set_other (by decide) h)).2.2.1⟩
        · refine ⟨rfl, ?_⟩
          rintro l ⟨u18, u19, u20, u21, u22, u23, u24, u25⟩ x ⟨r2, r3, ho, hd, hG, hsx, HL, g0, g1, g2, g3, g4, g5, g6, g7, g8⟩ hun hpre K hK
          have ho := ho.out (last_off HL (i := 7) (by decide) hun)
          obtain ⟨e1, e3, e0, _, e2, _, e4, e5, e6, -⟩ := hpre
          obtain rfl := g0.out e0
          obtain rfl := g1.out e1
          obtain rfl := g2.out e2
          obtain ⟨k, hk, rfl⟩ := g3.out e3
          obtain rfl := g4.out e4
          obtain ⟨gn, rfl, hgl3, hgn⟩ := g5.out e5
          obtain ⟨y, hy, rfl⟩ := g6.out e6
          refine ⟨?_⟩
          simp only [Prod.forall, putAll, List.setIfInBounds_toArray, List.set_cons_zero, List.set_cons_succ] at hK ⊢
          have hk4 : (k : Int) < 4 := by omega
          have hk0 : (0 : Int) ≤ (k : Int) := by omega
          go_simp
          exact hK _ _ _ _ _ _ _ _ _ ⟨r2, r3, fun _ => ho, hd, hG, hsx, fun h => allOn_keep (HL.out (on_set_other (by decide) h)), fun h => g0.out (on_set_other (by decide) h), fun h => g1.out (on_set_other (by decide) h), fun h => g2.out (on_set_other (by decide) h), fun h => g3.out (on_set_other (by decide) h), fun h => g4.out (on_set_other (by decide) h), fun h => g5.out (on_set_other (by decide) h), fun h => g6.out (on_set_other (by decide) h), fun _ => ⟨k, hk, rfl⟩, fun h => (fun ⟨o3, o5, o6, h2⟩ => ⟨on_keep o3, on_keep o5, on_keep o6, h2⟩) (g8.out (on_set_other (by decide) h))⟩
        · refine ⟨rfl, ?_⟩
          rintro l ⟨u18, u19, u20, u21, u22, u23, u24, u25⟩ x ⟨r2, r3, ho, hd, hG, hsx, HL, g0, g1, g2, g3, g4, g5, g6, g7, g8⟩ hun hpre K hK
          have hpre0 := hpre
          have ho := ho.out (off_self hun)
          obtain ⟨e7, e6, _, e0, e1, e2, e3, e4, e5, _, -⟩ := hpre
          obtain rfl := g0.out e0
          obtain rfl := g1.out e1
          obtain rfl := g2.out e2
          obtain ⟨k, hk, rfl⟩ := g3.out e3
          obtain rfl := g4.out e4
          obtain ⟨gn, rfl, hgl3, hgn⟩ := g5.out e5
          obtain ⟨y, hy, rfl⟩ := g6.out e6
          obtain ⟨k7, hk7, rfl⟩ := g7.out e7
          refine ⟨?_⟩
          simp only [Prod.forall, putAll, List.setIfInBounds_toArray, List.set_cons_zero, List.set_cons_succ] at hK ⊢
          have hf := ho.fro
          have hcc := ho.at_ (List.getElem?_eq_getElem (l := xs) (i := k7) (by omega))
          go_simp
          have hoy := ho.set_ k7 y
          exact hK _ _ _ _ _ _ _ _ _ ⟨blk_far (r2) (by (try dsimp only); omega) _, blk_far (r3) (by (try dsimp only); omega) _, fun h => self_absurd hun h, (hd).set_ (by omega) (by omega) _ _, gr_setF (hG) (by (try dsimp only); omega) _, (by simpa using hsx), fun _ => allOn_keep hpre0, fun h => g0.out (on_set_other (by decide) h), fun h => g1.out (on_set_other (by decide) h), fun h => g2.out (on_set_other (by decide) h), fun h => g3.out (on_set_other (by decide) h), fun h => g4.out (on_set_other (by decide) h), fun h => (fun ⟨g, h1, h2, h3⟩ => ⟨g, h1, h2, blk_far h3 (by (try dsimp only); omega) _⟩) (g5.out (on_set_other (by decide) h)), fun h => g6.out (on_set_other (by decide) h), fun h => g7.out (on_set_other (by decide) h), fun _ => ⟨on_keep e3, ⟨on_keep e5, ⟨on_keep e6, ⟨xs.set k7 y, by simp [hlen], set_all hxs.out hy, by simpa using hoy⟩⟩⟩⟩⟩
      · rintro l ⟨u18, u19, u20, u21, u22, u23, u24, u25⟩ x ⟨r2, r3, ho, hd, hG, hsx, HL, g0, g1, g2, g3, g4, g5, g6, g7, g8⟩ hon
        have e0 := hon (j := 0) rfl trivial
        have e1 := hon (j := 1) rfl ⟨e0, trivial⟩
        have e2 := hon (j := 2) rfl trivial
        have e3 := hon (j := 3) rfl ⟨e2, trivial⟩
        have e4 := hon (j := 4) rfl trivial
        have e5 := hon (j := 5) rfl trivial
        have e6 := hon (j := 6) rfl ⟨e4, e5, e3, trivial⟩
        have e7 := hon (j := 7) rfl ⟨e1, e3, e0, e1, e2, e3, e4, e5, e6, trivial⟩
        have e8 := hon (j := 8) rfl ⟨e7, e6, e6, e0, e1, e2, e3, e4, e5, e6, trivial⟩
        obtain rfl := g0.out e0; clear g0
        obtain rfl := g1.out e1; clear g1
        obtain rfl := g2.out e2; clear g2
        obtain ⟨k, hk, rfl⟩ := g3.out e3; clear g3
        obtain rfl := g4.out e4; clear g4
        obtain ⟨gn, rfl, hgl3, hgn⟩ := g5.out e5; clear g5
        obtain ⟨y, hy, rfl⟩ := g6.out e6; clear g6
        obtain ⟨k7, hk7, rfl⟩ := g7.out e7; clear g7
        obtain ⟨-, ⟨-, ⟨-, ⟨ys, hly, hys, hoy⟩⟩⟩⟩ := g8.out e8; clear g8
        clear hon ho HL e0 e1 e2 e3 e4 e5 e6 e7 e8 l
        refine ⟨?_⟩
        simp only [Prod.forall, putAll, List.setIfInBounds_toArray, List.set_cons_zero, List.set_cons_succ]
        have hlt2 := hoy.lt
        have r2 := Lib.hid r2; have r3 := Lib.hid r3; have hoy := Lib.hid hoy
        have hd1 := Lib.hid hd; have hG1 := Lib.hid hG
        clear hd hG
        have q0 : w.heap.size < x.heap.size := by omega
        have q2 : w2.heap.size < x.heap.size := by omega
        obtain ⟨kb, fb⟩ := blkcell r3.out
        obtain ⟨kb0, fb0⟩ := blkcell r2.out
        have HOF := Lib.hid ((hoy.out.own hgl1).setFar (p := ⟨w.heap.size, 0, none⟩) (by show w.heap.size < w.heap.size + 1; omega) (.slice (some ⟨gl, 0, none⟩) (4) cap))
        have HDF := Lib.hid (hd1.out.set_ (b := w.heap.size) (by omega) (by omega) 0 (.slice (some ⟨gl, 0, none⟩) (4) cap))
        have HGF := Lib.hid (gr_setF hG1.out (p := ⟨w.heap.size, 0, none⟩) (by show w.heap.size ≤ w.heap.size; omega) (.slice (some ⟨gl, 0, none⟩) (4) cap))
        go_wp2
        refine bodyPost_ret (v := lab (some ⟨gl, 0, none⟩) (4) cap) (by simp [results, Tryd.results35, go_sem, *]) rfl ?_
        exact ⟨_, _, ys, by rw [show (ys).length = 4 from hly], by rw [show (ys).length = 4 from hly]; omega, hys, HOF.out.more (by omega), HDF.out, HGF.out⟩
    · have e1 : (z == (1 : Int)) = false := by simpa using h1
      by_cases h2 : z = 2
      · subst h2
        have hbl : Hid (some w2.heap.size ≠ (Value.slice (some ⟨gl, 0, none⟩) 4 cap).ownBlock) := Lib.hid (by intro e; simp [Value.ownBlock] at e; omega)
        have hbl0 : Hid (some w.heap.size ≠ (Value.slice (some ⟨gl, 0, none⟩) 4 cap).ownBlock) := Lib.hid (by intro e; simp [Value.ownBlock] at e; omega)
        go_wp2_with (at_builtin; refine wpList_append_own _ rfl _ _ 22 rfl (w.heap.size + 1) 3 i0 (.int .i64 0) 1 8 Tryd.underlying22 hi hz0_ hz1_ hz2_ rfl (by decide) _ _ _ rfl (by exact hown.out.alloc _) ⟨w3.heap.size, 0, none⟩ 1 1 [.int .i64 (0)] rfl rfl ?c1 ?c2 ?c3 ?c4 ?c5 ?_)
        case c1 =>
          intro j u hj
          match j, hj with
          | 0, hj => simp at hj; subst hj; exact (blkcell (heap_alloc_new w3 (.cells #[.int .i64 (0)] 3))).1 0
        case c2 => intro u hu; simp at hu; subst hu; rfl
        case c3 => unfold maxLen; omega
        case c4 => omega
        case c5 => simp; omega
        intro v' wN hown' hgrow _
        obtain ⟨A', c', rfl, ho⟩ := own_of_row (show wN.ownsRow (w.heap.size + 1) 3 1 v' 5 ((xs ++ [0]).map (Value.int .i64)) from by rw [List.map_append]; exact hown')
        have r3 := Lib.hid ((hgrow.block w2.heap.size (by simp; omega) hbl.out).trans (blk_alloc r3.out))
        have r2 := Lib.hid ((hgrow.block w.heap.size (by simp; omega) hbl0.out).trans (blk_alloc r2.out))
        have hD5 := Lib.hid ((H3.out.al (.cells #[.int .i64 0] 3)).app (hown.out.alloc _) hgrow (by omega) (by omega))
        have hG5 := Lib.hid (gr_app (gr_alloc G3.out (.cells #[.int .i64 0] 3)) (hown.out.alloc _) hgrow (by omega))
        have HO := Lib.hid ho
        have hbv : Hid (∀ q : Addr, A' = some q → q.block ≠ w2.heap.size) := Lib.hid (by
          rintro q rfl e
          rcases HO.out with h | ⟨g', full, h1, h2, hh, _⟩
          · simp at h
          · injection h1 with h1
            subst h1
            have e' : g' = w2.heap.size := e
            rw [e', r3.out] at hh
            injection hh with hh
            injection hh with _ hh
            exact absurd hh (by decide))
        have hs5 := hgrow.size
        simp only [World.size_alloc] at hs5
        clear hown' hgrow ho kb fb kb0 fb0
        have q2 : w2.heap.size < wN.heap.size := by omega
        obtain ⟨kb, fb⟩ := blkcell r3.out
        go_upto_region 9 with (fail)
        have r3n := blk_set (i := 0) r3.out (.slice A' 5 c')
        have r2n := blk_far (p := ⟨w2.heap.size, 0, none⟩) r2.out (by show w.heap.size ≠ w2.heap.size; omega) (.slice A' 5 c')
        have hD6 := hD5.out.set_ (b := w2.heap.size) (by omega) (by omega) 0 (.slice A' 5 c')
        have hG6 := gr_setF hG5.out (p := ⟨w2.heap.size, 0, none⟩) (by show w.heap.size ≤ w2.heap.size; omega) (.slice A' 5 c')
        have hO6 := own_setBox HO.out hbv.out (.slice A' 5 c')
        have hs6 : wN.heap.size ≤ (wN.setCell ⟨w2.heap.size, 0, none⟩ (.slice A' 5 c')).heap.size := by simp
        clear kb fb
        generalize wN.setCell ⟨w2.heap.size, 0, none⟩ (.slice A' 5 c') = Y at r3n r2n hD6 hG6 hO6 hs6 ⊢
        have r3 := Lib.hid r3n; have r2 := Lib.hid r2n; have hD6 := Lib.hid hD6; have hG6 := Lib.hid hG6; have hO6 := Lib.hid hO6
        clear r3n r2n
        have q0 : w.heap.size < Y.heap.size := by omega
        have q2 : w2.heap.size < Y.heap.size := by omega
        obtain ⟨kb, fb⟩ := blkcell r3.out
        obtain ⟨kb0, fb0⟩ := blkcell r2.out
        have HOF := Lib.hid (hO6.out.setFar (p := ⟨w.heap.size, 0, none⟩) (by show w.heap.size < w.heap.size + 1; omega) (.slice (A') (5) c'))
        have HDF := Lib.hid (hD6.out.set_ (b := w.heap.size) (by omega) (by omega) 0 (.slice (A') (5) c'))
        have HGF := Lib.hid (gr_setF hG6.out (p := ⟨w.heap.size, 0, none⟩) (by show w.heap.size ≤ w.heap.size; omega) (.slice (A') (5) c'))
        go_wp2
        refine bodyPost_ret (v := lab (A') (5) c') (by simp [results, Tryd.results35, go_sem, *]) rfl ?_
        exact ⟨_, _, xs ++ [(0 : Int)], by rw [show (xs ++ [(0 : Int)]).length = 5 from by simp [hlen]], by rw [show (xs ++ [(0 : Int)]).length = 5 from by simp [hlen]]; omega, snoc_all (fun y hy => by have := hxs.out y hy; omega) (by omega), HOF.out.more (by omega), HDF.out, HGF.out⟩
      · have e2 : (z == (2 : Int)) = false := by simpa using h2
        have h3 : 3 ≤ z := by omega
        clear h0 h1 h2 kb fb kb0 fb0
        have q0 : w.heap.size < w3.heap.size := by omega
        have q2 : w2.heap.size < w3.heap.size := by omega
        obtain ⟨kb, fb⟩ := blkcell r3.out
        obtain ⟨kb0, fb0⟩ := blkcell r2.out
        have HOF := Lib.hid ((hob.out.own hgl1).setFar (p := ⟨w.heap.size, 0, none⟩) (by show w.heap.size < w.heap.size + 1; omega) (.slice (some ⟨gl, 0, none⟩) (4) cap))
        have HDF := Lib.hid (H3.out.set_ (b := w.heap.size) (by omega) (by omega) 0 (.slice (some ⟨gl, 0, none⟩) (4) cap))
        have HGF := Lib.hid (gr_setF G3.out (p := ⟨w.heap.size, 0, none⟩) (by show w.heap.size ≤ w.heap.size; omega) (.slice (some ⟨gl, 0, none⟩) (4) cap))
        go_wp2
        refine bodyPost_ret (v := lab (some ⟨gl, 0, none⟩) (4) cap) (by simp [results, Tryd.results35, go_sem, *]) rfl ?_
        exact ⟨_, _, xs, by rw [show (xs).length = 4 from hlen], by rw [show (xs).length = 4 from hlen]; omega, (fun y hy => by have := hxs.out y hy; omega), HOF.out.more (by omega), HDF.out, HGF.out⟩

end Go.Proofs.YtkcchceoljlnaaaDoor
