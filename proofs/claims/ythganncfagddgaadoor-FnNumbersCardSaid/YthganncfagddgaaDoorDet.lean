/- The reference's draws are functions of the code's bytes: what comes of a cursor's state. -/
import Derived.Test.YthganncfagddgaaDoorDrawP
namespace Go.Proofs.YthganncfagddgaaDoor
set_option linter.unusedSimpArgs false
set_option linter.unusedVariables false
open Go.RowKit
attribute [local go_sem ↓] Go.wp_at_zero Go.wp_at_succ

abbrev St := Nat × Int
def hashN (h : Int) : Int := wrap64 (wrap64 (h * 6364136223846793005) + 1442695040888963407)
def mixN (H : Int) : Int := bits .and .i64 (bits .xor .i64 (H / 8589934592) (H / 35184372088832)) 255
def byteF (l : List Nat) (s : St) : Int × St := match l[s.1]? with
  | some b => (bits .and .i64 (mixN (hashN s.2) + (b : Int)) 255, (s.1 + 1, hashN s.2))
  | none => (mixN (hashN s.2), (s.1, hashN s.2))
theorem byteF_some {l : List Nat} {i b : Nat} {h H z0 z : Int} (hb : l[i]? = some b) (hH : hashN h = H) (h0 : mixN H = z0) (hz : bits .and .i64 (z0 + (b : Int)) 255 = z) : byteF l (i, h) = (z, (i + 1, H)) := by
  simp only [byteF, hb, hH, h0, hz]
theorem byteF_none {l : List Nat} {i : Nat} {h H z0 : Int} (hb : l[i]? = none) (hH : hashN h = H) (h0 : mixN H = z0) : byteF l (i, h) = (z0, (i, H)) := by
  simp only [byteF, hb, hH, h0]
theorem and255 (a : Int) : 0 ≤ bits .and .i64 a 255 ∧ bits .and .i64 a 255 < 256 := by
  obtain ⟨z, hz, e⟩ := and_le a 255 (by omega)
  have e2 : bits .and .i64 a 255 = (z : Int) := e
  rw [e2]; omega
theorem byteF_bd (l : List Nat) (s : St) : 0 ≤ (byteF l s).1 ∧ (byteF l s).1 < 256 := by
  unfold byteF
  split
  · exact and255 _
  · exact and255 _
/-- the slice at A holds these bytes -/
def BysL (w : World) (A : Option Addr) (l : List Nat) : Prop :=
  (∀ z ∈ l, z < 256) ∧ (l = [] ∨ ∃ b off, A = some ⟨b, off, none⟩ ∧ ∀ k z, l[k]? = some z → w.cell? ⟨b, off + k, none⟩ = some (.int .u8 ((z : Nat) : Int)))
theorem BysL.keep {w w' : World} {A : Option Addr} {l : List Nat} (h : BysL w A l) (hk : ∀ p v, w.cell? p = some v → w'.cell? p = some v) : BysL w' A l := by
  refine ⟨h.1, ?_⟩
  rcases h.2 with h | ⟨b, off, rfl, hc⟩
  · exact .inl h
  · exact .inr ⟨b, off, rfl, fun k z hz => hk _ _ (hc k z hz)⟩
theorem BysL.at_ {w : World} {A : Option Addr} {l : List Nat} (h : BysL w A l) {k : Nat} (hk : k < l.length) : ∃ b off z, A = some ⟨b, off, none⟩ ∧ b < w.heap.size ∧ l[k]? = some z ∧ z < 256 ∧ w.cell? ⟨b, off + k, none⟩ = some (.int .u8 ((z : Nat) : Int)) := by
  have hz : l[k]? = some l[k] := List.getElem?_eq_getElem hk
  rcases h.2 with h2 | ⟨b, off, rfl, hc⟩
  · subst h2; simp at hk
  · exact ⟨b, off, l[k], rfl, lt_of_cell (hc k _ hz), hz, h.1 _ (List.getElem_mem hk), hc k _ hz⟩
theorem bysL_of {w : World} {A : Option Addr} {n : Nat} (h : Bys w A n) : ∃ l, l.length = n ∧ BysL w A l := by
  rcases h with rfl | ⟨b, off, rfl, hc⟩
  · exact ⟨[], rfl, by simp, .inl rfl⟩
  · refine ⟨(List.range n).map (fun k => if hk : k < n then (hc k hk).choose else 0), by simp, ?_, .inr ⟨b, off, rfl, ?_⟩⟩
    · intro z hz
      obtain ⟨k, hk, rfl⟩ := List.mem_map.1 hz
      rw [dif_pos (List.mem_range.1 hk)]
      exact (hc k (List.mem_range.1 hk)).choose_spec.1
    · intro k z hz
      by_cases hk : k < n
      · rw [List.getElem?_map, List.getElem?_range hk] at hz
        simp only [Option.map_some, dif_pos hk, Option.some.injEq] at hz
        rw [← hz]
        exact (hc k hk).choose_spec.2
      · rw [List.getElem?_eq_none (by simp; omega)] at hz; cases hz
/-- a draw's world: over W, with the cursor in block g, in the state s -/
structure Dt (W : World) (g : Nat) (A : Option Addr) (n c : Nat) (s : St) (w : World) : Prop where
  dr : Dr W g A n c w
  hi : s.1 ≤ n
  cur : w.heap[g]? = some (.cells #[.slice A n c, .int .i64 s.1, .int .i64 s.2] 53 (0, 0))
theorem Dt.step {W : World} {g : Nat} {A : Option Addr} {n c : Nat} {s s' : St} {w w' : World} (h : Dt W g A n c s w) (hg : w.grownBy w' (some g)) (hi : s'.1 ≤ n) (hc : w'.heap[g]? = some (.cells #[.slice A n c, .int .i64 s'.1, .int .i64 s'.2] 53 (0, 0))) : Dt W g A n c s' w' :=
  ⟨h.dr.step hg ⟨s'.1, s'.2, hi, hc⟩, hi, hc⟩
theorem Dt.bel {W : World} {g : Nat} {A : Option Addr} {n c : Nat} {s : St} {w w' : World} (h : Dt W g A n c s w) (hb : Below w.heap.size w w') : Dt W g A n c s w' :=
  ⟨h.dr.bel hb, h.hi, keepblk hb h.cur⟩
theorem Dt.al {W : World} {g : Nat} {A : Option Addr} {n c : Nat} {s : St} {w : World} (h : Dt W g A n c s w) (o : Obj) : Dt W g A n c s (w.alloc o) := h.bel ((Below.refl _ _).alloc (Nat.le_refl _) o)
theorem Dt.lt {W : World} {g : Nat} {A : Option Addr} {n c : Nat} {s : St} {w : World} (h : Dt W g A n c s w) : g < w.heap.size := lt_of_blk h.cur
theorem Dt.app {W : World} {g : Nat} {A : Option Addr} {n c : Nat} {s : St} {x w1 : World} {base : Nat} {t : TypeId} {sz : Nat} {v : Value} {m : Nat} {xs : List Value} (h : Dt W g A n c s x) (hown : x.ownsRow base t sz v m xs) (hg : x.grownBy w1 v.ownBlock) (hgb : g < base) (hW : W.heap.size ≤ base) : Dt W g A n c s w1 :=
  ⟨h.dr.app hown hg hgb hW, h.hi, (hg.block g (lt_of_blk h.cur) (own_ne_ hown hgb)).trans h.cur⟩
theorem BysL.dt {W : World} {g : Nat} {A : Option Addr} {n c : Nat} {s : St} {w : World} {A' : Option Addr} {l : List Nat} (hA : BysL W A' l) (h : Dt W g A n c s w) : BysL w A' l := hA.keep fun _ _ hc => Below.keeps h.dr.below hc
/-- what a draw answers -/
def Ret (v : Value) (s : St) (W : World) (g : Nat) (A : Option Addr) (n c : Nat) (w : World) (e : Ending) (w' : World) : Prop :=
  e = .returned v ∧ Dt W g A n c s w' ∧ w.grownBy w' (some g)
set_option maxHeartbeats 3200000 in
theorem l1Byte_det (W : World) (g : Nat) (A : Option Addr) (n c : Nat) (l : List Nat) (s : St) (w : World) (hA : BysL W A l) (hl : l.length = n) (hn : n ≤ 1048576) (hd : Dt W g A n c s w) :
    Calls Tryd.prog 35 #[.pointer (some ⟨g, 0, none⟩)] w (Ret (.int .i64 (byteF l s).1) (byteF l s).2 W g A n c w) := by
  obtain ⟨i, h⟩ := s
  have hi : i ≤ n := hd.hi
  have hh : w.heap[g]? = some (.cells #[.slice A n c, .int .i64 i, .int .i64 h] 53 (0, 0)) := hd.cur
  have HA := Lib.hid hA; have HD := Lib.hid hd; have HH := Lib.hid hh; have HL := Lib.hid hl
  obtain ⟨kc, fc⟩ := blkcell hh
  clear hA hd hh hl
  suffices HS : Calls Tryd.prog 35 #[.pointer (some ⟨g, 0, none⟩)] w (fun e w' => ∃ (z : Int) (s' : St), byteF l (i, h) = (z, s') ∧ e = .returned (.int .i64 z) ∧ Dt W g A n c s' w' ∧ w.grownBy w' (some g)) by
    refine HS.mono ?_
    rintro e w' ⟨z, s', h1, h2, h3, h4⟩
    rw [h1]
    exact ⟨h2, h3, h4⟩
  go_enter Tryd.func35, Tryd.ntmps35
  go_wp2_with fail
  go_quiet (fail)
  generalize eH : wrap64 (wrap64 (h * 6364136223846793005) + 1442695040888963407) = H
  generalize eY : bits BinOp.xor IntKind.i64 (H / 8589934592) (H / 35184372088832) = Y
  obtain ⟨z0, hz0, e0⟩ := and_le Y 255 (by omega)
  have e1 : bits BinOp.and IntKind.i64 Y 255 = (z0 : Int) := e0
  have EH := Lib.hid (show hashN h = H from eH)
  have EY := Lib.hid (show mixN H = (z0 : Int) by unfold mixN; rw [eY, e1])
  rw [e1]
  clear e0 e1 kc fc eH eY
  have hh2 : ((w.setCell ⟨g, 2, none⟩ (.int .i64 H)).drewN nq).heap[g]? = some (.cells #[.slice A n c, .int .i64 i, .int .i64 H] 53 (0, 0)) := blk_set (i := 2) HH.out _
  have hg2 : w.grownBy ((w.setCell ⟨g, 2, none⟩ (.int .i64 H)).drewN nq) (some g) := gr_drewN (gr_set (gr_refl _ _) _ _) _
  generalize (w.setCell ⟨g, 2, none⟩ (.int .i64 H)).drewN nq = X at hh2 hg2 ⊢
  obtain ⟨kc, fc⟩ := blkcell hh2
  have hgl := lt_of_blk hh2
  have hi0 : (0 : Int) ≤ (i : Int) := by omega
  have HX := Lib.hid hh2
  have HG := Lib.hid hg2
  have HDX := Lib.hid (HD.out.step (s' := (i, H)) hg2 hi hh2)
  clear hh2 hg2
  by_cases hin : i < n
  · obtain ⟨b, off, z1, rfl, hbl, hz1e, hz1, hcz⟩ := BysL.at_ (HA.out.dt HDX.out) (k := i) (by have := HL.out; omega)
    have EZ := Lib.hid hz1e
    clear hz1e
    have hin2 : (i : Int) < (n : Int) := by omega
    have hd1 : decide ((i : Int) < (n : Int)) = true := by simpa using hin
    have hd2 : decide (i < n) = true := by simpa using hin
    go_wp2_with fail
    go_quiet (fail)
    have e5 : IntKind.i64.wrap (z1 : Int) = (z1 : Int) := by simp only [IntKind.wrap_i64]; omega
    have e6 : IntKind.i64.wrap ((z0 : Int) + (z1 : Int)) = (z0 : Int) + (z1 : Int) := by simp only [IntKind.wrap_i64]; omega
    go_wp2_with fail
    go_quiet (fail)
    obtain ⟨z2, hz2, e2⟩ := and_le ((z0 : Int) + (z1 : Int)) 255 (by omega)
    have e3 : bits BinOp.and IntKind.i64 ((z0 : Int) + (z1 : Int)) 255 = (z2 : Int) := e2
    have EF := Lib.hid (byteF_some EZ.out EH.out EY.out e3)
    rw [e3]
    clear e2 e3 e5 e6 hcz
    have hset := Lib.hid (fun (j : Nat) (v : Value) => blk_set (w := X.drewN j) (i := 1) HX.out v)
    clear HH
    go_wp2
    go_ret
    refine ⟨z2, _, EF.out, rfl, HDX.out.step (s' := (i + 1, H)) (by repeat (first | exact gr_refl _ _ | refine gr_drewN ?_ _ | refine gr_set ?_ _ _)) (by show i + 1 ≤ n; omega) ?_, gr_trans HG.out (by repeat (first | exact gr_refl _ _ | refine gr_drewN ?_ _ | refine gr_set ?_ _ _))⟩
    refine (hset.out _ _).trans ?_
    simp
  · have hd1 : decide ((i : Int) < (n : Int)) = false := by simpa using hin
    have hd2 : decide (i < n) = false := by simpa using hin
    have hin2 : (n : Int) ≤ (i : Int) := by omega
    have EF := Lib.hid (byteF_none (List.getElem?_eq_none (show l.length ≤ i by have := HL.out; omega)) EH.out EY.out)
    go_wp2_with fail
    go_quiet (fail)
    go_wp2
    go_ret
    exact ⟨z0, _, EF.out, rfl, (HDX.out.bel (below_drewN_ (Below.refl _ _) _)), gr_drewN HG.out _⟩

end Go.Proofs.YthganncfagddgaaDoor
