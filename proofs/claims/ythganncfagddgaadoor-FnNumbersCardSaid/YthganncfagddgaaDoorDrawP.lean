/- The draw of one of a list; what a draw's world bears. -/
import Derived.Test.YthganncfagddgaaDoorDraw
import Derived.Deep.OwnRows
namespace Go.Proofs.YthganncfagddgaaDoor
set_option linter.unusedSimpArgs false
set_option linter.unusedVariables false
open Go.RowKit
attribute [local go_sem ↓] Go.wp_at_zero Go.wp_at_succ

def PickP (xs : List Int) (W : World) (g : Nat) (A : Option Addr) (n c : Nat) (w : World) (e : Ending) (w' : World) : Prop :=
  ∃ z : Int, z ∈ xs ∧ e = .returned (.int .i64 z) ∧ Dr W g A n c w' ∧ w.grownBy w' (some g)
set_option maxHeartbeats 1600000 in
theorem l1PickInt_any (W : World) (g : Nat) (A : Option Addr) (n c : Nat) (xs : List Int) (b m cap : Nat) (w : World) (hA : Bys W A n) (hn : n ≤ 1048576) (hd : Dr W g A n c w) (hm : xs.length = m) (h0 : 0 < m) (hl : m ≤ 256) (hbg : b ≠ g)
    (hx : ∀ k z, xs[k]? = some z → w.cell? ⟨b, k, none⟩ = some (.int .i64 z)) :
    Calls Tryd.prog 34 #[.pointer (some ⟨g, 0, none⟩), .slice (some ⟨b, 0, none⟩) m cap] w (PickP xs W g A n c w) := by
  have C := Lib.hid (fun w' h => l1Below_any W g A n c (m : Int) w' hA hn (by omega) (by omega) h)
  have HD := Lib.hid hd; have HX := Lib.hid hx; have HM := Lib.hid hm; have HB := Lib.hid hbg
  clear hA hd hx hm hbg
  go_enter Tryd.func34, Tryd.ntmps34
  go_wp2_with fail
  refine (C.out _ HD.out).mono ?_
  rintro e w1 ⟨z, hz0, hz1, rfl, hD1, hg1⟩
  have H1 := Lib.hid hD1; have G1 := Lib.hid hg1
  clear hD1 hg1
  obtain ⟨k, rfl⟩ := Int.eq_ofNat_of_zero_le hz0
  have hk : k < m := by omega
  have ex := Lib.hid (List.getElem?_eq_getElem (l := xs) (i := k) (by have := HM.out; omega))
  have hmem := Lib.hid (List.getElem_mem (l := xs) (n := k) (by have := HM.out; omega))
  generalize xs[k]'(by have := HM.out; omega) = z at *
  have hc := HX.out k z ex.out
  have hcell : w1.cell? ⟨b, k, none⟩ = some (.int .i64 z) := (World.cell?_of_block (G1.out.block b (lt_of_cell hc) (fun e => HB.out (by injection e)))).trans hc
  clear hc
  go_wp2
  go_ret
  exact ⟨z, hmem.out, rfl, H1.out, G1.out⟩
def NumP (lo hi : Int) (W : World) (g : Nat) (A : Option Addr) (n c : Nat) (w : World) (e : Ending) (w' : World) : Prop :=
  ∃ z : Int, lo ≤ z ∧ z ≤ hi ∧ e = .returned (.int .i64 z) ∧ Dr W g A n c w' ∧ w.grownBy w' (some g)
theorem lits (w : World) (cs : Array Value) (t : TypeId) (xs : List Int) (h : cs.toList = xs.map (Value.int .i64)) : ∀ k z, xs[k]? = some z → (w.alloc (.cells cs t)).cell? ⟨w.heap.size, k, none⟩ = some (.int .i64 z) := by
  intro k z hz
  rw [(blkcell (heap_alloc_new w (.cells cs t))).1 k, ← Array.getElem?_toList, h]
  simp [hz]
theorem Dr.set_ {W : World} {g : Nat} {A : Option Addr} {n c : Nat} {x : World} (h : Dr W g A n c x) {b : Nat} (hb : W.heap.size ≤ b) (hne : g ≠ b) (i : Nat) (v : Value) : Dr W g A n c (x.setCell ⟨b, i, none⟩ v) :=
  ⟨h.below.setCell (p := ⟨b, i, none⟩) hb _, h.ge, by obtain ⟨i', x', h1, h2⟩ := h.cur; exact ⟨i', x', h1, blk_far h2 (p := ⟨b, i, none⟩) hne _⟩⟩
theorem Dr.al {W : World} {g : Nat} {A : Option Addr} {n c : Nat} {x : World} (h : Dr W g A n c x) (o : Obj) : Dr W g A n c (x.alloc o) := h.bel ((Below.refl _ _).alloc (Nat.le_refl _) o)
theorem blk_gr {x x' : World} {g b : Nat} {O : Obj} (hg : x.grownBy x' (some g)) (h : x.heap[b]? = some O) (hne : b ≠ g) : x'.heap[b]? = some O := (hg.block b (lt_of_blk h) (fun e => hne (by injection e))).trans h
theorem own_ne_ {w : World} {base : Nat} {t : TypeId} {s : Nat} {v : Value} {n : Nat} {xs : List Value} (h : w.ownsRow base t s v n xs) {b : Nat} (hb : b < base) : some b ≠ v.ownBlock := by
  intro e
  have := (h.lt b e.symm).1
  omega
theorem Dr.app {W : World} {g : Nat} {A : Option Addr} {n c : Nat} {x w1 : World} {base : Nat} {t : TypeId} {s : Nat} {v : Value} {m : Nat} {xs : List Value} (h : Dr W g A n c x) (hown : x.ownsRow base t s v m xs) (hg : x.grownBy w1 v.ownBlock) (hgb : g < base) (hW : W.heap.size ≤ base) : Dr W g A n c w1 := by
  obtain ⟨i, z, h1, h2⟩ := h.cur
  exact ⟨h.below.grown hg h.below.size (fun k hk => by have := (hown.lt k hk).1; omega), h.ge, i, z, h1, (hg.block g (lt_of_blk h2) (own_ne_ hown hgb)).trans h2⟩
theorem ownsRow_gr {x x' : World} {g base : Nat} {t : TypeId} {s : Nat} {v : Value} {n : Nat} {xs : List Value} (h : x.ownsRow base t s v n xs) (hg : x.grownBy x' (some g)) (hgb : g < base) : x'.ownsRow base t s v n xs := by
  refine ⟨h.1, ?_⟩
  rcases h.2 with h | ⟨g', cap, cur, h1, h2, h3, h4⟩
  · exact .inl h
  · exact .inr ⟨g', cap, cur, h1, h2, blk_gr hg h3 (by omega), h4⟩
theorem ownsRow_set {x : World} {b base : Nat} {t : TypeId} {s : Nat} {v : Value} {n : Nat} {xs : List Value} (h : x.ownsRow base t s v n xs) (hne : v.ownBlock ≠ some b) (i : Nat) (u : Value) : (x.setCell ⟨b, i, none⟩ u).ownsRow base t s v n xs := by
  refine ⟨h.1, ?_⟩
  rcases h.2 with h | ⟨g', cap, cur, h1, h2, h3, h4⟩
  · exact .inl h
  · exact .inr ⟨g', cap, cur, h1, h2, blk_far (p := ⟨b, i, none⟩) h3 (by rintro rfl; exact hne (by rw [h1]; rfl)) _, h4⟩
end Go.Proofs.YthganncfagddgaaDoor
