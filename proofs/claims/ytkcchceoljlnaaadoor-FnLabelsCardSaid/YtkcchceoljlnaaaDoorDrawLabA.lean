/- Contracts of the draws of owned categories and of labels. -/
import Derived.Test.YtkcchceoljlnaaaDoorDrawP
import Derived.Test.YtkcchceoljlnaaaDoorNeeds
import Derived.Deep.Cut
namespace Go.Proofs.YtkcchceoljlnaaaDoor
set_option linter.unusedSimpArgs false
set_option linter.unusedVariables false
open Go.RowKit
attribute [local go_sem ↓] Go.wp_at_zero Go.wp_at_succ

theorem gr_app {w x w1 : World} {g base : Nat} {t : TypeId} {s : Nat} {v : Value} {n : Nat} {xs : List Value} (h : w.grownBy x (some g)) (hown : x.ownsRow base t s v n xs) (hg : x.grownBy w1 v.ownBlock) (hb : w.heap.size ≤ base) : w.grownBy w1 (some g) :=
  ⟨hg.os.trans h.os, hg.tape.trans h.tape, hg.output.trans h.output, Nat.le_trans h.size hg.size, fun k hk hne => (hg.block k (Nat.lt_of_lt_of_le hk h.size) (own_ne_ hown (by omega))).trans (h.block k hk hne)⟩
theorem ownsRow_snoc {w : World} {b : Nat} {v : Value} {xs : List Int} {z : Int} {n : Nat} (h : w.ownsRow b 3 1 v n (xs.map (Value.int .i64) ++ [.int .i64 z])) (hn : n = xs.length + 1) : w.ownsRow b 3 1 v (xs ++ [z]).length ((xs ++ [z]).map (Value.int .i64)) := by
  subst hn
  rw [List.length_append, List.map_append]; exact h
def DrI (W : World) (g : Nat) (A : Option Addr) (n c : Nat) (w : World) (e : Ending) (w' : World) : Prop :=
  ∃ (A' : Option Addr) (c' : Nat) (xs : List Int), e = .returned (.slice A' xs.length c') ∧ xs.length ≤ 5 ∧ Own w' w.heap.size 3 A' (xs.map (Value.int .i64)) ∧ Dr W g A n c w' ∧ w.grownBy w' (some g)

theorem snoc_all {P : Int → Prop} {xs : List Int} {z : Int} (h : ∀ x ∈ xs, P x) (hz : P z) : ∀ x ∈ xs ++ [z], P x := by
  intro y hy
  rcases List.mem_append.1 hy with h1 | h1
  · exact h y h1
  · simp at h1; subst h1; exact hz
theorem ownsRow_more {w : World} {b b' : Nat} {t : TypeId} {s : Nat} {v : Value} {n : Nat} {xs : List Value} (h : w.ownsRow b t s v n xs) (hb : b' ≤ b) : w.ownsRow b' t s v n xs := by
  refine ⟨h.1, ?_⟩
  rcases h.2 with h | ⟨g', cap, cur, h1, h2, h3, h4⟩
  · exact .inl h
  · exact .inr ⟨g', cap, cur, h1, Nat.le_trans hb h2, h3, h4⟩
theorem gr_setF {w x : World} {g : Nat} (h : w.grownBy x (some g)) {p : Addr} (hp : w.heap.size ≤ p.block) (u : Value) : w.grownBy (x.setCell p u) (some g) :=
  ⟨h.os, h.tape, h.output, by simpa using h.size, fun k hk hne => (Below.heap_setCell x p u k (by rintro rfl; omega)).trans (h.block k hk hne)⟩
def DrL (W : World) (g : Nat) (A : Option Addr) (n c : Nat) (w : World) (e : Ending) (w' : World) : Prop :=
  ∃ (v : Value) (xs : List Int), e = .returned (.agg #[v]) ∧ xs.length = 4 ∧ (∀ x ∈ xs, 0 ≤ x ∧ x < 4) ∧ w'.ownsRow w.heap.size 3 1 v 4 (xs.map (Value.int .i64)) ∧ Dr W g A n c w' ∧ w.grownBy w' (some g)
set_option maxHeartbeats 12800000 in
theorem l3Label_any (W : World) (g : Nat) (A : Option Addr) (n c : Nat) (w : World) (hA : Bys W A n) (hn : n ≤ 1048576) (hd : Dr W g A n c w) :
    Calls Tryd.prog 43 #[.pointer (some ⟨g, 0, none⟩)] w (DrL W g A n c w) := by
  have D := Lib.hid (fun m w' h h1 h2 => l1Below_any W g A n c m w' hA hn h1 h2 h)
  obtain ⟨i0, hi, hz0_, hz1_, hz2_⟩ := info_parts int_info
  have hgl := hd.lt
  have hWw := hd.below.size
  have HD := Lib.hid (((hd.al (.cells #[.slice none 0 0] 27)).al (.cells #[.slice none 0 0] 27)))
  have HG := Lib.hid (gr_alloc (gr_alloc (gr_refl w (some g)) (.cells #[.slice none 0 0] 27)) (.cells #[.slice none 0 0] 27))
  clear hA hd
  go_enter Tryd.func43, Tryd.ntmps43
  go_wp2
  go_loopw [4] (fun i wr => ∃ (k : Nat) (v : Value) (xs : List Int), k ≤ 4 ∧ i = .int .i64 k ∧ xs.length = k ∧ Hid (∀ x ∈ xs, 0 ≤ x ∧ x < 4) ∧ Hid (wr.heap[w.heap.size]? = some (.cells #[.slice none 0 0] 27 (0, 0))) ∧ Hid (wr.heap[w.heap.size + 1]? = some (.cells #[v] 27 (0, 0))) ∧
    Hid (wr.ownsRow (w.heap.size + 2) 3 1 v k (xs.map (Value.int .i64))) ∧ Hid (Dr W g A n c wr) ∧ Hid (w.grownBy wr (some g)) ∧ w.heap.size + 2 ≤ wr.heap.size) (fun i _ => 4 - (intOf i).toNat)
  case atStart =>
    have hbx := heap_alloc_new (w.alloc (.cells #[.slice none 0 0] 27)) (.cells #[.slice none 0 0] 27)
    rw [World.size_alloc] at hbx
    exact ⟨0, _, [], Nat.zero_le _, rfl, rfl, Lib.hid (by simp), Lib.hid (blk_alloc (heap_alloc_new w _)), Lib.hid hbx, Lib.hid (own_none _ _ _), HD, HG, by simp⟩
  case round =>
    obtain ⟨k, v, xs, hk, rfl, hlen, hxs, hr2, hr3, hown, hd0, hG0, hsz⟩ := hrel
    by_cases hlt : k < 4
    · have hlt2 : (k : Int) < 4 := by omega
      have q0 : w.heap.size < wr.heap.size := by omega
      have q1 : w.heap.size + 1 < wr.heap.size := by omega
      go_wp2_with fail
      have hvo := Lib.hid (fun g' (e : v.ownBlock = some g') => (hown.out.lt g' e).2)
      refine wp_region_fr (U := Value × Value × Value × Value × Value × Value × Value) [[], [0], [], [2], [3], [1, 4, 3], [0, 1, 2, 3, 4, 5], [6, 5, 5, 0, 1, 2, 3, 4, 5]] (fun u => match u with | (u10, u11, u12, u13, u14, u15, u16) => [(10, u10), (11, u11), (12, u12), (13, u13), (14, u14), (15, u15), (16, u16)]) (u10, u11, u12, u13, u14, u15, u16) (fun l u x => match u with | (u10, u11, u12, u13, u14, u15, u16) => (x.heap[w.heap.size]? = some (.cells #[.slice none 0 0] 27 (0, 0))) ∧ Hid (l.getD 7 false = false → x.heap[w.heap.size + 1]? = some (.cells #[v] 27 (0, 0))) ∧ Hid (l.getD 5 false = false → x.ownsRow (w.heap.size + 2) 3 1 v k (xs.map (Value.int .i64))) ∧ (Dr W g A n c x) ∧ (w.grownBy x (some g)) ∧ (wr.heap.size ≤ x.heap.size) ∧ Hid (l.getD 7 false = true → AllOn l [6, 5, 5, 0, 1, 2, 3, 4, 5]) ∧ Hid (l.getD 0 false = true → u10 = .pointer (some ⟨w.heap.size + 1, 0, none⟩)) ∧ Hid (l.getD 1 false = true → u11 = v) ∧ Hid (l.getD 2 false = true → u12 = .pointer (some ⟨g, 0, none⟩)) ∧ Hid (l.getD 3 false = true → ∃ z : Int, 0 ≤ z ∧ z < 4 ∧ u13 = .int .i64 z) ∧ Hid (l.getD 4 false = true → l.getD 3 false = true ∧ (∃ (ga : Nat) (z : Int), 0 ≤ z ∧ z < 4 ∧ u14 = .slice (some ⟨ga, 0, none⟩) 1 1 ∧ wr.heap.size ≤ ga ∧ x.heap[ga]? = some (.cells #[.int .i64 z] 3 (0, 0)))) ∧ Hid (l.getD 5 false = true → l.getD 3 false = true ∧ (l.getD 4 false = true ∧ (∃ (gg cap : Nat) (z : Int), 0 ≤ z ∧ z < 4 ∧ u15 = .slice (some ⟨gg, 0, none⟩) (k + 1) cap ∧ x.ownsRow (w.heap.size + 2) 3 1 (.slice (some ⟨gg, 0, none⟩) (k + 1) cap) (k + 1) (xs.map (Value.int .i64) ++ [.int .i64 z])))) ∧ Hid (l.getD 6 false = true → u16 = .pointer (some ⟨w.heap.size + 1, 0, none⟩)) ∧ Hid (l.getD 7 false = true → l.getD 3 false = true ∧ (l.getD 4 false = true ∧ (l.getD 5 false = true ∧ (∃ (gg cap : Nat) (z : Int), 0 ≤ z ∧ z < 4 ∧ u15 = .slice (some ⟨gg, 0, none⟩) (k + 1) cap ∧ x.heap[w.heap.size + 1]? = some (.cells #[.slice (some ⟨gg, 0, none⟩) (k + 1) cap] 27 (0, 0)) ∧ x.ownsRow (w.heap.size + 2) 3 1 (.slice (some ⟨gg, 0, none⟩) (k + 1) cap) (k + 1) (xs.map (Value.int .i64) ++ [.int .i64 z])))))) (by kernel_rfl) (by kernel_rfl) ?_ ?_ ?_ ?_
      · kernel_rfl
      · exact ⟨(by exact hr2.out), (fun _ => by exact hr3.out), (fun _ => by exact hown.out), (by exact hd0.out.bel ((Below.refl _ _).drew)), (by exact gr_drewN hG0.out 1), (Nat.le_refl _), fun h => repl_off h, fun h => repl_off h, fun h => repl_off h, fun h => repl_off h, fun h => repl_off h, fun h => repl_off h, fun h => repl_off h, fun h => repl_off h, fun h => repl_off h⟩
      · refine ⟨?_, ?_, ?_, ?_, ?_, ?_, ?_, ?_, trivial⟩
        · refine ⟨rfl, ?_⟩
          rintro l ⟨u10, u11, u12, u13, u14, u15, u16⟩ x ⟨r2, r3, hown, hd, hG, hsx, HL, g0, g1, g2, g3, g4, g5, g6, g7⟩ hun hpre K hK
          have r3 := r3.out (last_off HL (i := 0) (by decide) hun)
          clear hpre
          refine ⟨?_⟩
          simp only [Prod.forall, putAll, List.setIfInBounds_toArray, List.set_cons_zero, List.set_cons_succ] at hK ⊢
          go_simp
          exact hK _ _ _ _ _ _ _ _ ⟨r2, fun _ => r3, fun h => (hown.out (off_set h)), hd, hG, hsx, fun h => allOn_keep (HL.out (on_set_other (by decide) h)), fun _ => rfl, fun h => g1.out (on_set_other (by decide) h), fun h => g2.out (on_set_other (by decide) h), fun h => g3.out (on_set_other (by decide) h), fun h => (fun ⟨o3, h2⟩ => ⟨on_keep o3, h2⟩) (g4.out (on_set_other (by decide) h)), fun h => (fun ⟨o3, o4, h2⟩ => ⟨on_keep o3, on_keep o4, h2⟩) (g5.out (on_set_other (by decide) h)), fun h => g6.out (on_set_other (by decide) h), fun h => (fun ⟨o3, o4, o5, h2⟩ => ⟨on_keep o3, on_keep o4, on_keep o5, h2⟩) (g7.out (on_set_other (by decide) h))⟩
        · refine ⟨rfl, ?_⟩
          rintro l ⟨u10, u11, u12, u13, u14, u15, u16⟩ x ⟨r2, r3, hown, hd, hG, hsx, HL, g0, g1, g2, g3, g4, g5, g6, g7⟩ hun hpre K hK
          have r3 := r3.out (last_off HL (i := 1) (by decide) hun)
          obtain ⟨e0, -⟩ := hpre
          obtain rfl := g0.out e0
          refine ⟨?_⟩
          simp only [Prod.forall, putAll, List.setIfInBounds_toArray, List.set_cons_zero, List.set_cons_succ] at hK ⊢
          obtain ⟨kq, fq⟩ := blkcell r3
          go_simp
          exact hK _ _ _ _ _ _ _ _ ⟨r2, fun _ => r3, fun h => (hown.out (off_set h)), hd, hG, hsx, fun h => allOn_keep (HL.out (on_set_other (by decide) h)), fun h => g0.out (on_set_other (by decide) h), fun _ => rfl, fun h => g2.out (on_set_other (by decide) h), fun h => g3.out (on_set_other (by decide) h), fun h => (fun ⟨o3, h2⟩ => ⟨on_keep o3, h2⟩) (g4.out (on_set_other (by decide) h)), fun h => (fun ⟨o3, o4, h2⟩ => ⟨on_keep o3, on_keep o4, h2⟩) (g5.out (on_set_other (by decide) h)), fun h => g6.out (on_set_other (by decide) h), fun h => (fun ⟨o3, o4, o5, h2⟩ => ⟨on_keep o3, on_keep o4, on_keep o5, h2⟩) (g7.out (on_set_other (by decide) h))⟩
        · refine ⟨rfl, ?_⟩
          rintro l ⟨u10, u11, u12, u13, u14, u15, u16⟩ x ⟨r2, r3, hown, hd, hG, hsx, HL, g0, g1, g2, g3, g4, g5, g6, g7⟩ hun hpre K hK
          have r3 := r3.out (last_off HL (i := 2) (by decide) hun)
          clear hpre
          refine ⟨?_⟩
          simp only [Prod.forall, putAll, List.setIfInBounds_toArray, List.set_cons_zero, List.set_cons_succ] at hK ⊢
          go_simp
          exact hK _ _ _ _ _ _ _ _ ⟨r2, fun _ => r3, fun h => (hown.out (off_set h)), hd, hG, hsx, fun h => allOn_keep (HL.out (on_set_other (by decide) h)), fun h => g0.out (on_set_other (by decide) h), fun h => g1.out (on_set_other (by decide) h), fun _ => rfl, fun h => g3.out (on_set_other (by decide) h), fun h => (fun ⟨o3, h2⟩ => ⟨on_keep o3, h2⟩) (g4.out (on_set_other (by decide) h)), fun h => (fun ⟨o3, o4, h2⟩ => ⟨on_keep o3, on_keep o4, h2⟩) (g5.out (on_set_other (by decide) h)), fun h => g6.out (on_set_other (by decide) h), fun h => (fun ⟨o3, o4, o5, h2⟩ => ⟨on_keep o3, on_keep o4, on_keep o5, h2⟩) (g7.out (on_set_other (by decide) h))⟩
        · refine ⟨rfl, ?_⟩
          rintro l ⟨u10, u11, u12, u13, u14, u15, u16⟩ x ⟨r2, r3, hown, hd, hG, hsx, HL, g0, g1, g2, g3, g4, g5, g6, g7⟩ hun hpre K hK
          have r3 := r3.out (last_off HL (i := 3) (by decide) hun)
          obtain ⟨e2, -⟩ := hpre
          obtain rfl := g2.out e2
          refine ⟨?_⟩
          simp only [Prod.forall, putAll, List.setIfInBounds_toArray, List.set_cons_zero, List.set_cons_succ] at hK ⊢
          go_simp
          refine (D.out 4 _ hd (by omega) (by omega)).mono ?_
          rintro e x2 ⟨z, hz0, hz1, rfl, hd2, hg⟩
          exact hK _ _ _ _ _ _ _ _ ⟨blk_gr hg (r2) (by omega), fun _ => blk_gr hg (r3) (by omega), fun h => ownsRow_gr ((hown.out (off_set h))) hg (by omega), hd2, gr_trans (hG) hg, (Nat.le_trans hsx hg.size), fun h => allOn_keep (HL.out (on_set_other (by decide) h)), fun h => g0.out (on_set_other (by decide) h), fun h => g1.out (on_set_other (by decide) h), fun h => g2.out (on_set_other (by decide) h), fun _ => ⟨z, hz0, hz1, rfl⟩, fun h => off_of_on hun (g4.out (on_set_other (by decide) h)).1, fun h => off_of_on hun (g5.out (on_set_other (by decide) h)).1, fun h => g6.out (on_set_other (by decide) h), fun h => off_of_on hun (g7.out (on_set_other (by decide) h)).1⟩
        · refine ⟨rfl, ?_⟩
          rintro l ⟨u10, u11, u12, u13, u14, u15, u16⟩ x ⟨r2, r3, hown, hd, hG, hsx, HL, g0, g1, g2, g3, g4, g5, g6, g7⟩ hun hpre K hK
          have r3 := r3.out (last_off HL (i := 4) (by decide) hun)
          obtain ⟨e3, -⟩ := hpre
          obtain ⟨z, hz0, hz1, rfl⟩ := g3.out e3
          refine ⟨?_⟩
          simp only [Prod.forall, putAll, List.setIfInBounds_toArray, List.set_cons_zero, List.set_cons_succ] at hK ⊢
          go_simp
          exact hK _ _ _ _ _ _ _ _ ⟨blk_alloc (r2), fun _ => blk_alloc (r3), fun h => ((hown.out (off_set h))).alloc _, (hd).al _, gr_alloc (hG) _, (Nat.le_trans hsx (by simp)), fun h => allOn_keep (HL.out (on_set_other (by decide) h)), fun h => g0.out (on_set_other (by decide) h), fun h => g1.out (on_set_other (by decide) h), fun h => g2.out (on_set_other (by decide) h), fun h => g3.out (on_set_other (by decide) h), fun _ => ⟨on_keep e3, ⟨_, z, hz0, hz1, rfl, hsx, heap_alloc_new x _⟩⟩, fun h => off_of_on hun (g5.out (on_set_other (by decide) h)).2.1, fun h => g6.out (on_set_other (by decide) h), fun h => off_of_on hun (g7.out (on_set_other (by decide) h)).2.1⟩
        · refine ⟨rfl, ?_⟩
          rintro l ⟨u10, u11, u12, u13, u14, u15, u16⟩ x ⟨r2, r3, hown, hd, hG, hsx, HL, g0, g1, g2, g3, g4, g5, g6, g7⟩ hun hpre K hK
          have r3 := r3.out (last_off HL (i := 5) (by decide) hun)
          have hown := hown.out (off_self hun)
          obtain ⟨e1, e4, e3, -⟩ := hpre
          obtain rfl := g1.out e1
          obtain ⟨z, hz0, hz1, rfl⟩ := g3.out e3
          obtain ⟨-, ⟨gn, z, hz0, hz1, rfl, hgl, hgn⟩⟩ := g4.out e4
          refine ⟨?_⟩
          simp only [Prod.forall, putAll, List.setIfInBounds_toArray, List.set_cons_zero, List.set_cons_succ] at hK ⊢
          refine wp_append_lies _ (.tmp 11) (.tmp 14) 22 (by rfl) (w.heap.size + 2) 3 i0 (.int .i64 0) 1 8 Tryd.underlying22 hi hz0_ hz1_ hz2_ rfl (by omega) _ k _ (by rfl) hown ⟨gn, 0, none⟩ 1 1 [.int .i64 z] (by rfl) (by rfl) (World.news_of_block (cs := #[.int .i64 z]) (t := 3) (fr := (0, 0)) hgn) (by intro u hu; simp at hu; subst hu; rfl) (by omega) (by unfold maxLen; omega) (by omega) (by omega) x.heap.size rfl ?_
          intro gg cap x2 hown1 hgrow hat hlt4
          have hnew : x2.ownsRow (w.heap.size + 2) 3 1 (.slice (some ⟨gg, 0, none⟩) (k + 1) cap) (k + 1) (xs.map (Value.int .i64) ++ [.int .i64 z]) := by simpa using hown1
          exact hK _ _ _ _ _ _ _ _ ⟨blk_app hown hgrow (r2) (by omega), fun _ => blk_app hown hgrow (r3) (by omega), fun h => self_absurd hun h, (hd).app hown hgrow (by omega) (by omega), gr_app (hG) hown hgrow (by omega), (Nat.le_trans hsx hgrow.size), fun h => allOn_keep (HL.out (on_set_other (by decide) h)), fun h => g0.out (on_set_other (by decide) h), fun h => g1.out (on_set_other (by decide) h), fun h => g2.out (on_set_other (by decide) h), fun h => g3.out (on_set_other (by decide) h), fun h => (fun ⟨o3, h2⟩ => ⟨on_keep o3, (fun ⟨g, z, y0, y1, h1, h2, h3⟩ => ⟨g, z, y0, y1, h1, h2, (hgrow.block g (lt_of_blk h3) (fun e => by have := hvo.out g e.symm; omega)).trans h3⟩) h2⟩) (g4.out (on_set_other (by decide) h)), fun _ => ⟨on_keep e3, ⟨on_keep e4, ⟨gg, cap, z, hz0, hz1, rfl, hnew⟩⟩⟩, fun h => g6.out (on_set_other (by decide) h), fun h => off_of_on hun (g7.out (on_set_other (by decide) h)).2.2.1⟩
        · refine ⟨rfl, ?_⟩
          rintro l ⟨u10, u11, u12, u13, u14, u15, u16⟩ x ⟨r2, r3, hown, hd, hG, hsx, HL, g0, g1, g2, g3, g4, g5, g6, g7⟩ hun hpre K hK
          have r3 := r3.out (last_off HL (i := 6) (by decide) hun)
          obtain ⟨e0, e1, e2, e3, e4, e5, -⟩ := hpre
          obtain rfl := g0.out e0
          obtain rfl := g1.out e1
          obtain rfl := g2.out e2
          obtain ⟨z, hz0, hz1, rfl⟩ := g3.out e3
          obtain ⟨-, ⟨gn, z, hz0, hz1, rfl, hgl, hgn⟩⟩ := g4.out e4
          obtain ⟨-, ⟨-, ⟨gg, cap, z, hz0, hz1, rfl, hnew⟩⟩⟩ := g5.out e5
          refine ⟨?_⟩
          simp only [Prod.forall, putAll, List.setIfInBounds_toArray, List.set_cons_zero, List.set_cons_succ] at hK ⊢
          go_simp
          exact hK _ _ _ _ _ _ _ _ ⟨r2, fun _ => r3, fun h => (hown.out (off_set h)), hd, hG, hsx, fun h => allOn_keep (HL.out (on_set_other (by decide) h)), fun h => g0.out (on_set_other (by decide) h), fun h => g1.out (on_set_other (by decide) h), fun h => g2.out (on_set_other (by decide) h), fun h => g3.out (on_set_other (by decide) h), fun h => (fun ⟨o3, h2⟩ => ⟨on_keep o3, h2⟩) (g4.out (on_set_other (by decide) h)), fun h => (fun ⟨o3, o4, h2⟩ => ⟨on_keep o3, on_keep o4, h2⟩) (g5.out (on_set_other (by decide) h)), fun _ => rfl, fun h => (fun ⟨o3, o4, o5, h2⟩ => ⟨on_keep o3, on_keep o4, on_keep o5, h2⟩) (g7.out (on_set_other (by decide) h))⟩
        · refine ⟨rfl, ?_⟩
          rintro l ⟨u10, u11, u12, u13, u14, u15, u16⟩ x ⟨r2, r3, hown, hd, hG, hsx, HL, g0, g1, g2, g3, g4, g5, g6, g7⟩ hun hpre K hK
          have hpre0 := hpre
          have r3 := r3.out (off_self hun)
          obtain ⟨e6, e5, _, e0, e1, e2, e3, e4, _, -⟩ := hpre
          obtain rfl := g0.out e0
          obtain rfl := g1.out e1
          obtain rfl := g2.out e2
          obtain ⟨z, hz0, hz1, rfl⟩ := g3.out e3
          obtain ⟨-, ⟨gn, z, hz0, hz1, rfl, hgl, hgn⟩⟩ := g4.out e4
          obtain ⟨-, ⟨-, ⟨gg, cap, z, hz0, hz1, rfl, hnew⟩⟩⟩ := g5.out e5
          obtain rfl := g6.out e6
          refine ⟨?_⟩
          simp only [Prod.forall, putAll, List.setIfInBounds_toArray, List.set_cons_zero, List.set_cons_succ] at hK ⊢
          obtain ⟨k3, f3⟩ := blkcell r3
          go_simp
          have hnew2 := ownsRow_setCell_below (a := ⟨w.heap.size + 1, 0, none⟩) hnew (by show w.heap.size + 1 < w.heap.size + 2; omega) (.slice (some ⟨gg, 0, none⟩) (k + 1) cap)
          exact hK _ _ _ _ _ _ _ _ ⟨blk_far (r2) (by (try dsimp only); omega) _, fun h => self_absurd hun h, fun h => absurd (off_set h) (by rw [e5]; decide), (hd).set_ (by omega) (by omega) _ _, gr_setF (hG) (by (try dsimp only); omega) _, (by simpa using hsx), fun _ => allOn_keep hpre0, fun h => g0.out (on_set_other (by decide) h), fun h => g1.out (on_set_other (by decide) h), fun h => g2.out (on_set_other (by decide) h), fun h => g3.out (on_set_other (by decide) h), fun h => (fun ⟨o3, h2⟩ => ⟨on_keep o3, (fun ⟨g, z, y0, y1, h1, h2, h3⟩ => ⟨g, z, y0, y1, h1, h2, blk_far h3 (by (try dsimp only); omega) _⟩) h2⟩) (g4.out (on_set_other (by decide) h)), fun h => (fun ⟨o3, o4, h2⟩ => ⟨on_keep o3, on_keep o4, ⟨gg, cap, z, hz0, hz1, rfl, hnew2⟩⟩) (g5.out (on_set_other (by decide) h)), fun h => g6.out (on_set_other (by decide) h), fun _ => ⟨on_keep e3, ⟨on_keep e4, ⟨on_keep e5, ⟨gg, cap, z, hz0, hz1, rfl, blk_set (i := 0) r3 _, hnew2⟩⟩⟩⟩⟩
      · rintro l ⟨u10, u11, u12, u13, u14, u15, u16⟩ x ⟨r2, r3, hown, hd, hG, hsx, HL, g0, g1, g2, g3, g4, g5, g6, g7⟩ hon
        have e0 := hon (j := 0) rfl trivial
        have e1 := hon (j := 1) rfl ⟨e0, trivial⟩
        have e2 := hon (j := 2) rfl trivial
        have e3 := hon (j := 3) rfl ⟨e2, trivial⟩
        have e4 := hon (j := 4) rfl ⟨e3, trivial⟩
        have e5 := hon (j := 5) rfl ⟨e1, e4, e3, trivial⟩
        have e6 := hon (j := 6) rfl ⟨e0, e1, e2, e3, e4, e5, trivial⟩
        have e7 := hon (j := 7) rfl ⟨e6, e5, e5, e0, e1, e2, e3, e4, e5, trivial⟩
        obtain rfl := g0.out e0; clear g0
        obtain rfl := g1.out e1; clear g1
        obtain rfl := g2.out e2; clear g2
        obtain ⟨z, hz0, hz1, rfl⟩ := g3.out e3; clear g3
        obtain ⟨-, ⟨gn, z, hz0, hz1, rfl, hgl, hgn⟩⟩ := g4.out e4; clear g4
        clear g5
        obtain rfl := g6.out e6; clear g6
        obtain ⟨-, ⟨-, ⟨-, ⟨gg, cap, z, hz0, hz1, rfl, hbx, hnew⟩⟩⟩⟩ := g7.out e7; clear g7
        clear hon r3 hown HL e0 e1 e2 e3 e4 e5 e6 e7 l
        refine ⟨?_⟩
        simp only [Prod.forall, putAll, List.setIfInBounds_toArray, List.set_cons_zero, List.set_cons_succ]
        have hx2 := Lib.hid (show ∀ y ∈ xs ++ [z], 0 ≤ y ∧ y < 4 from snoc_all hxs.out ⟨hz0, hz1⟩)
        have hr3 := Lib.hid hbx
        have hown := Lib.hid (show x.ownsRow (w.heap.size + 2) 3 1 (.slice (some ⟨gg, 0, none⟩) (k + 1) cap) (k + 1) ((xs ++ [z]).map (Value.int .i64)) by rw [List.map_append]; exact hnew)
        have hr2 := Lib.hid r2
        have hd1 := Lib.hid hd; have hG1 := Lib.hid hG
        clear hbx hnew r2 hd hG
        have hs1 : w.heap.size + 2 ≤ x.heap.size := by omega
        go_wp2
        exact ⟨⟨k + 1, _, xs ++ [z], by omega, by go_num, by simp; omega, hx2, hr2, hr3, hown, hd1, hG1, hs1⟩, by simp [intOf]; omega⟩
    · obtain rfl : k = 4 := by omega
      have q0 : w.heap.size < wr.heap.size := by omega
      have q1 : w.heap.size + 1 < wr.heap.size := by omega
      obtain ⟨AA, cc, rfl, _⟩ := own_of_row hown.out
      have HOW := Lib.hid (ownsRow_more (ownsRow_setCell_below (a := ⟨w.heap.size, 0, none⟩) hown.out (by show w.heap.size < w.heap.size + 2; omega) (.slice AA 4 cc)) (show w.heap.size ≤ w.heap.size + 2 by omega))
      obtain ⟨kb, fb⟩ := blkcell hr3.out
      obtain ⟨kb0, fb0⟩ := blkcell hr2.out
      go_wp2
      refine bodyPost_ret (v := lab AA 4 cc) (by simp [results, Tryd.results43, go_sem, *]) rfl ?_
      refine ⟨_, xs, rfl, hlen, hxs.out, ?_, ?_, ?_⟩
      · exact HOW.out
      · exact hd0.out.set_ (by omega) (by omega) _ _
      · exact gr_setF hG0.out (by show w.heap.size ≤ w.heap.size; omega) _

end Go.Proofs.YtkcchceoljlnaaaDoor
