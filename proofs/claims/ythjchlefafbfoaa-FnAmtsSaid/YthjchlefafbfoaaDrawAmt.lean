/- Contracts of the draws of amounts and numbers. -/
import Derived.Test.YthjchlefafbfoaaDraw
import Derived.Test.YthjchlefafbfoaaAmt2
import Derived.Deep.RegionWith
namespace Go.Proofs.Ythjchlefafbfoaa
set_option linter.unusedSimpArgs false
set_option linter.unusedVariables false
open Go.RowKit
attribute [local go_sem ↓] Go.wp_at_zero Go.wp_at_succ

theorem below_set_ {B : Nat} {a w : World} (h : Below B a w) {b o : Nat} (hp : B ≤ b) (u : Value) : Below B a (w.setCell ⟨b, o, none⟩ u) := h.setCell hp u
abbrev B3 := Int × Int × Int
abbrev amt3 (b : B3) : Value := amt b.1 b.2.1 b.2.2
def PickP (xs : List Int) (W : World) (g : Nat) (A : Option Addr) (n c : Nat) (w : World) (e : Ending) (w' : World) : Prop :=
  ∃ z : Int, z ∈ xs ∧ e = .returned (.int .i64 z) ∧ Dr W g A n c w' ∧ w.grownBy w' (some g)
set_option maxHeartbeats 1600000 in
theorem l1PickInt_any (W : World) (g : Nat) (A : Option Addr) (n c : Nat) (xs : List Int) (b m cap : Nat) (w : World) (hA : Bys W A n) (hn : n ≤ 1048576) (hd : Dr W g A n c w) (hm : xs.length = m) (h0 : 0 < m) (hl : m ≤ 256) (hbg : b ≠ g)
    (hx : ∀ k z, xs[k]? = some z → w.cell? ⟨b, k, none⟩ = some (.int .i64 z)) :
    Calls Try.prog 50 #[.pointer (some ⟨g, 0, none⟩), .slice (some ⟨b, 0, none⟩) m cap] w (PickP xs W g A n c w) := by
  have C := Lib.hid (fun w' h => l1Below_any W g A n c (m : Int) w' hA hn (by omega) (by omega) h)
  have HD := Lib.hid hd; have HX := Lib.hid hx; have HM := Lib.hid hm; have HB := Lib.hid hbg
  clear hA hd hx hm hbg
  go_enter Try.func50, Try.ntmps50
  go_wp2_with fail
  refine (C.out _ HD.out).mono ?_
  rintro e w1 ⟨z, hz0, hz1, rfl, hD1, hg1⟩
  have H1 := Lib.hid hD1; have G1 := Lib.hid hg1
  clear hD1 hg1
  obtain ⟨k, rfl⟩ := Int.eq_ofNat_of_zero_le hz0
  have hk : k < m := by omega
  have ex := Lib.hid (List.getElem?_eq_getElem (l := xs) (i := k) (by have := HM.out; omega))
  have hmem := Lib.hid (List.getElem_mem (l := xs) (n := k) (by have := HM.out; omega))
  generalize xs[k]'(by have := HM.out; omega) = z at *
  have hc := HX.out k z ex.out
  have hcell : w1.cell? ⟨b, k, none⟩ = some (.int .i64 z) := (World.cell?_of_block (G1.out.block b (lt_of_cell hc) (fun e => HB.out (by injection e)))).trans hc
  clear hc
  go_wp2
  go_ret
  exact ⟨z, hmem.out, rfl, H1.out, G1.out⟩
def NumP (lo hi : Int) (W : World) (g : Nat) (A : Option Addr) (n c : Nat) (w : World) (e : Ending) (w' : World) : Prop :=
  ∃ z : Int, lo ≤ z ∧ z ≤ hi ∧ e = .returned (.int .i64 z) ∧ Dr W g A n c w' ∧ w.grownBy w' (some g)
theorem lits (w : World) (cs : Array Value) (t : TypeId) (xs : List Int) (h : cs.toList = xs.map (Value.int .i64)) : ∀ k z, xs[k]? = some z → (w.alloc (.cells cs t)).cell? ⟨w.heap.size, k, none⟩ = some (.int .i64 z) := by
  intro k z hz
  rw [(blkcell (heap_alloc_new w (.cells cs t))).1 k, ← Array.getElem?_toList, h]
  simp [hz]
set_option maxHeartbeats 1600000 in
theorem l5Num_any (W : World) (g : Nat) (A : Option Addr) (n c : Nat) (w : World) (hA : Bys W A n) (hn : n ≤ 1048576) (hd : Dr W g A n c w) :
    Calls Try.prog 48 #[.pointer (some ⟨g, 0, none⟩)] w (NumP (-1) 1000001 W g A n c w) := by
  have C := Lib.hid (fun w' h => l1Once_any W g A n c 20 w' hA hn (by omega) (by omega) h)
  have D := Lib.hid (fun w' h => l1Below_any W g A n c 60 w' hA hn (by omega) (by omega) h)
  have E := Lib.hid (fun b w' h h1 h2 => l1PickInt_any W g A n c [-1, 1000000, 1000001, 999999] b 4 4 w' hA hn h rfl (by omega) (by omega) h1 h2)
  have HD := Lib.hid hd
  clear hA hd
  go_enter Try.func48, Try.ntmps48
  go_wp2_with fail
  refine (C.out _ HD.out).mono ?_
  rintro e w1 ⟨z, rfl, hD1, hg1⟩
  have H1 := Lib.hid hD1; have G1 := Lib.hid hg1
  clear hD1 hg1
  cases z
  · go_wp2_with fail
    refine (D.out _ H1.out).mono ?_
    rintro e w2 ⟨z, hz0, hz1, rfl, hD2, hg2⟩
    have H2 := Lib.hid hD2; have G2 := Lib.hid (gr_trans G1.out hg2)
    clear hD2 hg2
    go_wp2
    go_ret
    exact ⟨z, by omega, by omega, rfl, H2.out, G2.out⟩
  · go_wp2_with fail
    refine (E.out _ _ (H1.out.bel ((Below.refl _ _).alloc (Nat.le_refl _) _)) (by have := H1.out.lt; omega) (lits w1 _ _ _ rfl)).mono ?_
    rintro e w2 ⟨z, hz, rfl, hD2, hg2⟩
    have H2 := Lib.hid hD2; have G2 := Lib.hid (gr_trans (gr_alloc G1.out _) hg2)
    have hzz : -1 ≤ z ∧ z ≤ 1000001 := by simp at hz; omega
    clear hD2 hg2 hz
    go_wp2
    go_ret
    exact ⟨z, hzz.1, hzz.2, rfl, H2.out, G2.out⟩
def AnyP (W : World) (g : Nat) (A : Option Addr) (n c : Nat) (w : World) (e : Ending) (w' : World) : Prop :=
  ∃ a : B3, ((-1 ≤ a.1 ∧ a.1 ≤ 1000001) ∧ (-1 ≤ a.2.1 ∧ a.2.1 ≤ 1000001) ∧ (-1 ≤ a.2.2 ∧ a.2.2 ≤ 1000001)) ∧ e = .returned (amt3 a) ∧ Dr W g A n c w' ∧ w.grownBy w' (some g)
set_option maxHeartbeats 1600000 in
theorem l5Any_any (W : World) (g : Nat) (A : Option Addr) (n c : Nat) (w : World) (hA : Bys W A n) (hn : n ≤ 1048576) (hd : Dr W g A n c w) :
    Calls Try.prog 44 #[.pointer (some ⟨g, 0, none⟩)] w (AnyP W g A n c w) := by
  have C := Lib.hid (fun w' h => l5Num_any W g A n c w' hA hn h)
  have HD := Lib.hid (hd.bel ((Below.refl _ _).alloc (Nat.le_refl _) (.cells #[.int .i64 0, .int .i64 0, .int .i64 0] 26)))
  have hgl := hd.lt
  clear hA hd
  go_enter Try.func44, Try.ntmps44
  go_wp2_with fail
  refine (C.out _ HD.out).mono ?_
  rintro e w1 ⟨z1, a1, b1, rfl, hD1, hg1⟩
  have H1 := Lib.hid hD1; have G1 := Lib.hid (gr_trans (gr_alloc (gr_refl w _) _) hg1)
  have hbx := (hg1.block w.heap.size (by simp) (fun e => by injection e with e; omega)).trans (heap_alloc_new w _)
  clear hD1 hg1
  go_wp2_with fail
  refine (C.out _ H1.out).mono ?_
  rintro e w2 ⟨z2, a2, b2, rfl, hD2, hg2⟩
  have H2 := Lib.hid hD2; have G2 := Lib.hid (gr_trans G1.out hg2)
  have hbx := (hg2.block w.heap.size (lt_of_blk hbx) (fun e => by injection e with e; omega)).trans hbx
  clear hD2 hg2
  go_wp2_with fail
  refine (C.out _ H2.out).mono ?_
  rintro e w3 ⟨z3, a3, b3, rfl, hD3, hg3⟩
  have H3 := Lib.hid hD3; have G3 := Lib.hid (gr_trans G2.out hg3)
  have hbx := (hg3.block w.heap.size (lt_of_blk hbx) (fun e => by injection e with e; omega)).trans hbx
  clear hD3 hg3
  obtain ⟨kb, fb⟩ := blkcell hbx
  have hbl := lt_of_blk hbx
  have S1 := Lib.hid (fun (i : Nat) (v : Value) (x : World) (h : w.grownBy x (some g)) => (⟨h.os, h.tape, h.output, by simpa [World.setCell] using h.size, fun k hk hne => (Below.heap_setCell x ⟨w.heap.size, i, none⟩ v k (by (try dsimp only); omega)).trans (h.block k hk hne)⟩ : w.grownBy (x.setCell ⟨w.heap.size, i, none⟩ v) (some g)))
  have S2 := Lib.hid (fun (i : Nat) (v : Value) (x : World) (h : Dr W g A n c x) => (show Dr W g A n c (x.setCell ⟨w.heap.size, i, none⟩ v) from ⟨h.below.setCell (by have := HD.out.below.size; show W.heap.size ≤ w.heap.size; have := H1.out.ge; omega) _, h.ge, by obtain ⟨i', x', h1, h2⟩ := h.cur; exact ⟨i', x', h1, blk_far h2 (by show g ≠ w.heap.size; omega) _⟩⟩))
  clear hbx
  go_wp2
  refine bodyPost_ret (v := amt z1 z2 z3) (by simp [results, Try.results44, go_sem, *]) rfl ⟨(z1, z2, z3), ⟨⟨a1, b1⟩, ⟨a2, b2⟩, a3, b3⟩, rfl, S2.out _ _ _ (S2.out _ _ _ (S2.out _ _ _ H3.out)), S1.out _ _ _ (S1.out _ _ _ (S1.out _ _ _ G3.out))⟩
theorem Dr.set_ {W : World} {g : Nat} {A : Option Addr} {n c : Nat} {x : World} (h : Dr W g A n c x) {b : Nat} (hb : W.heap.size ≤ b) (hne : g ≠ b) (i : Nat) (v : Value) : Dr W g A n c (x.setCell ⟨b, i, none⟩ v) :=
  ⟨h.below.setCell (p := ⟨b, i, none⟩) hb _, h.ge, by obtain ⟨i', x', h1, h2⟩ := h.cur; exact ⟨i', x', h1, blk_far h2 (p := ⟨b, i, none⟩) hne _⟩⟩
theorem Dr.al {W : World} {g : Nat} {A : Option Addr} {n c : Nat} {x : World} (h : Dr W g A n c x) (o : Obj) : Dr W g A n c (x.alloc o) := h.bel ((Below.refl _ _).alloc (Nat.le_refl _) o)
theorem blk_gr {x x' : World} {g b : Nat} {O : Obj} (hg : x.grownBy x' (some g)) (h : x.heap[b]? = some O) (hne : b ≠ g) : x'.heap[b]? = some O := (hg.block b (lt_of_blk h) (fun e => hne (by injection e))).trans h
def TwoP (w : World) (e : Ending) (w' : World) : Prop := ∃ a b : B3, e = .returned (.tuple #[amt3 a, amt3 b]) ∧ Below w.heap.size w w'
set_option maxHeartbeats 6400000 in
theorem DrawAmtFits_any (A : Option Addr) (n c : Nat) (w : World) (hA : Bys w A n) (hn : n ≤ 1048576) :
    Calls Try.prog 33 #[.slice A n c] w (TwoP w) := by
  obtain ⟨W, hW⟩ : ∃ W, W = (w.alloc (.cells #[.int .i64 0, .int .i64 0, .int .i64 0] 26)).alloc (.cells #[.int .i64 0, .int .i64 0, .int .i64 0] 26) := ⟨_, rfl⟩
  have hBW : Below w.heap.size w W := by rw [hW]; exact ((Below.refl _ _).alloc (Nat.le_refl _) _).alloc (by simp) _
  have hWs : W.heap.size = w.heap.size + 1 + 1 := by rw [hW]; simp
  have r1 : W.heap[w.heap.size]? = some (.cells #[.int .i64 0, .int .i64 0, .int .i64 0] 26 (0, 0)) := by rw [hW]; exact blk_alloc (heap_alloc_new w _)
  have r2 : W.heap[w.heap.size + 1]? = some (.cells #[.int .i64 0, .int .i64 0, .int .i64 0] 26 (0, 0)) := by
    have := heap_alloc_new (w.alloc (.cells #[.int .i64 0, .int .i64 0, .int .i64 0] 26)) (.cells #[.int .i64 0, .int .i64 0, .int .i64 0] 26)
    rw [hW]; simpa only [World.size_alloc] using this
  have hAW : Bys W A n := hA.keep fun _ _ h => Below.keeps hBW h
  have N := Lib.hid (l1New_any A n c W hAW hn)
  have FA := Lib.hid (fun g w' h => l5Any_any W g A n c w' hAW hn h)
  have FO := Lib.hid (fun g w' h => l1Once_any W g A n c 2 w' hAW hn (by omega) (by omega) h)
  have FB := Lib.hid (fun g w' h => l1Below_any W g A n c 3 w' hAW hn (by omega) (by omega) h)
  have HW := Lib.hid hW; have HWs := Lib.hid hWs; have HBW := Lib.hid hBW; have R1 := Lib.hid r1; have R2 := Lib.hid r2
  have hlW : w.heap.size + 2 ≤ W.heap.size := by omega
  clear hA hW hWs hBW hAW r1 r2
  go_enter Try.func33, Try.ntmps33
  go_wp2_with fail
  rw [← HW.out]
  refine N.out.mono ?_
  rintro e w1 ⟨g, rfl, hD⟩
  have HD := Lib.hid hD
  have hgW := hD.ge
  clear hD
  go_wp2_with fail
  refine (FA.out _ _ HD.out).mono ?_
  rintro e w2 ⟨a, ha, rfl, hD2, hg2⟩
  have H2 := Lib.hid (hD2.al (.cells #[.int .i64 a.1, .int .i64 a.2.1, .int .i64 a.2.2] 26))
  have hl2 := hD2.lt
  have hW2 := hD2.below.size
  have b5 := Lib.hid (heap_alloc_new w2 (.cells #[.int .i64 a.1, .int .i64 a.2.1, .int .i64 a.2.2] 26))
  clear hD2 hg2
  go_wp2_with fail
  refine (FA.out _ _ H2.out).mono ?_
  rintro e w3 ⟨b, hb, rfl, hD3, hg3⟩
  have H3 := Lib.hid (hD3.al (.cells #[.int .i64 b.1, .int .i64 b.2.1, .int .i64 b.2.2] 26))
  have hl3 := hD3.lt
  have hW3 := hD3.below.size
  have b5 := Lib.hid (blk_gr hg3 b5.out (by omega))
  have hl5 := lt_of_blk b5.out
  have b5 := Lib.hid (blk_alloc (O := .cells #[.int .i64 b.1, .int .i64 b.2.1, .int .i64 b.2.2] 26) b5.out)
  have b6 := Lib.hid (heap_alloc_new w3 (.cells #[.int .i64 b.1, .int .i64 b.2.1, .int .i64 b.2.2] 26))
  clear hD3 hg3
  go_wp2_with fail
  refine (FO.out _ _ H3.out).mono ?_
  rintro e w4 ⟨z, rfl, hD4, hg4⟩
  have H4 := Lib.hid hD4
  have b5 := Lib.hid (blk_gr hg4 b5.out (by omega))
  have b6 := Lib.hid (blk_gr hg4 b6.out (by omega))
  have hl6 := lt_of_blk b6.out
  have hl4 := hD4.lt
  have hl5 := lt_of_blk b5.out
  clear hD4 hg4
  have ENDL : ∀ (x : World) (b : B3), Dr W g A n c x → x.heap[w2.heap.size]? = some (.cells #[.int .i64 a.1, .int .i64 a.2.1, .int .i64 a.2.2] 26 (0, 0)) → x.heap[w3.heap.size]? = some (.cells #[.int .i64 b.1, .int .i64 b.2.1, .int .i64 b.2.2] 26 (0, 0)) → True := fun _ _ _ _ _ => trivial
  clear ENDL
  cases z
  · have r1 := keepblk H4.out.below R1.out
    have r2 := keepblk H4.out.below R2.out
    obtain ⟨k5, f5⟩ := blkcell b5.out
    obtain ⟨k6, f6⟩ := blkcell b6.out
    obtain ⟨q1, p1⟩ := blkcell r1
    obtain ⟨q2, p2⟩ := blkcell r2
    have hq1 := lt_of_blk r1
    have hq2 := lt_of_blk r2
    have hBe := Lib.hid (Below.trans HBW.out (H4.out.below.mono (by omega)))
    clear r1 r2
    go_wp2_with fail
    go_region_with (fail)
    all_goals
      go_wp2
      refine bodyPost_ret (v := .tuple #[amt3 a, amt3 b]) (by simp [results, Try.results33, go_sem, *]) rfl ⟨a, b, rfl, ?_⟩
      refine Below.drew ?_
      iterate 6 (refine below_set_ ?_ (by omega) _)
      exact hBe.out
  · have F6 := Lib.hid (fun (x : World) (h : x.heap[w3.heap.size]? = some (.cells #[.int .i64 b.1, .int .i64 b.2.1, .int .i64 b.2.2] 26 (0, 0))) => blk_set (i := 2) (blk_set (i := 1) (blk_set (i := 0) h (.int .i64 a.1)) (.int .i64 a.2.1)) (.int .i64 a.2.2))
    have b6n := F6.out _ b6.out
    have b5n := blk_far (p := ⟨w3.heap.size, 2, none⟩) (blk_far (p := ⟨w3.heap.size, 1, none⟩) (blk_far (p := ⟨w3.heap.size, 0, none⟩) b5.out (by show w2.heap.size ≠ w3.heap.size; omega) (.int .i64 a.1)) (by show w2.heap.size ≠ w3.heap.size; omega) (.int .i64 a.2.1)) (by show w2.heap.size ≠ w3.heap.size; omega) (.int .i64 a.2.2)
    have HDn := ((H4.out.set_ (b := w3.heap.size) (by omega) (by omega) 0 (.int .i64 a.1)).set_ (b := w3.heap.size) (by omega) (by omega) 1 (.int .i64 a.2.1)).set_ (b := w3.heap.size) (by omega) (by omega) 2 (.int .i64 a.2.2)
    obtain ⟨k5, f5⟩ := blkcell b5.out
    obtain ⟨k6, f6⟩ := blkcell b6.out
    clear F6
    go_wp2_with fail
    clear k5 f5 k6 f6 b5 b6 H4
    generalize ((w4.setCell ⟨w3.heap.size, 0, none⟩ (.int .i64 a.1)).setCell ⟨w3.heap.size, 1, none⟩ (.int .i64 a.2.1)).setCell ⟨w3.heap.size, 2, none⟩ (.int .i64 a.2.2) = X at b6n b5n HDn ⊢
    have b5 := Lib.hid b5n; have b6 := Lib.hid b6n; have HX := Lib.hid HDn
    obtain ⟨k6, f6⟩ := blkcell b6n
    clear b5n b6n HDn
    obtain ⟨ha1, ha2, ha3, ha4⟩ := ha
    go_region_with (go_at_call 46; refine (FB.out g _ (by exact HX.out.bel ((Below.refl _ _).drew))).mono ?_; rintro e x2 ⟨z, hz0, hz1, rfl, hD, hg⟩; have b5 := Lib.hid (blk_gr hg (show X.drew.heap[_]? = _ from b5.out) (by omega)); have b6 := Lib.hid (blk_gr hg (show X.drew.heap[_]? = _ from b6.out) (by omega)); have HX := Lib.hid hD; obtain ⟨k7, f7⟩ := blkcell b6.out; clear hD hg; have e5 : IntKind.i64.wrap (a.2.2 + z) = a.2.2 + z := (by simp only [IntKind.wrap_i64]; omega); have e6 : IntKind.i64.wrap (a.2.2 + z - 1) = a.2.2 + z - 1 := (by simp only [IntKind.wrap_i64]; omega))
    all_goals
      clear e5 e6 k7 f7
      have b6n := blk_set (i := 2) b6.out (.int .i64 (a.2.2 + z - 1))
      have b5n := blk_far (p := ⟨w3.heap.size, 2, none⟩) b5.out (by show w2.heap.size ≠ w3.heap.size; omega) (.int .i64 (a.2.2 + z - 1))
      have HDn := HX.out.set_ (b := w3.heap.size) (by omega) (by omega) 2 (.int .i64 (a.2.2 + z - 1))
      go_wp2_with fail
      generalize x2.setCell ⟨w3.heap.size, 2, none⟩ (.int .i64 (a.2.2 + z - 1)) = Y at b6n b5n HDn ⊢
      have r1 := keepblk HDn.below R1.out
      have r2 := keepblk HDn.below R2.out
      obtain ⟨k5, f5⟩ := blkcell b5n
      obtain ⟨k6, f6⟩ := blkcell b6n
      obtain ⟨q1, p1⟩ := blkcell r1
      obtain ⟨q2, p2⟩ := blkcell r2
      have hq1 := lt_of_blk r1
      have hq2 := lt_of_blk r2
      have hBe := Lib.hid (Below.trans HBW.out (HDn.below.mono (by omega)))
      clear r1 r2 b5n b6n HDn
      go_region_with (fail)
      all_goals
        go_wp2
        refine bodyPost_ret (v := .tuple #[amt3 a, amt a.1 a.2.1 (a.2.2 + z - 1)]) (by simp [results, Try.results33, go_sem, *]) rfl ⟨a, (a.1, a.2.1, a.2.2 + z - 1), rfl, ?_⟩
        refine Below.drew ?_
        iterate 6 (refine below_set_ ?_ (by omega) _)
        exact hBe.out

end Go.Proofs.Ythjchlefafbfoaa
