/- Contracts of Meet (the reference). -/
import Derived.Test.YtkcchceoljlnaaaJoinN
import Derived.Test.YtkcchceoljlnaaaRegionG
import Derived.Deep.AppendLies
namespace Go.Proofs.Ytkcchceoljlnaaa
set_option linter.unusedSimpArgs false
set_option linter.unusedVariables false
open Go.RowKit
attribute [local go_sem ↓] Go.wp_at_zero Go.wp_at_succ

set_option maxHeartbeats 12800000 in
theorem specMeet_yes (A B : Option Addr) (n m c d : Nat) (xs ys : List Int) (w : World) (hx : Ints w A xs) (hy : Ints w B ys) (hn : xs.length = n) (hm : ys.length = m) (hnb : n ≤ 1099511627776) (hmb : m ≤ 1099511627776) (h1 : labB xs = true) (h2 : labB ys = true) :
    Calls Try.prog 33 #[lab A n c, lab B m d] w (LabPost (zipL min xs ys) w) := by
  obtain rfl : n = 4 := hn.symm.trans (labB_len4 h1)
  obtain rfl : m = 4 := hm.symm.trans (labB_len4 h2)
  have C := Lib.hid (fun w' h => specLabelOk_any A 4 c xs w' h hn hnb)
  have D := Lib.hid (fun w' h => specLabelOk_any B 4 d ys w' h hm hmb)
  have HX := Lib.hid hx; have HY := Lib.hid hy; have HN := Lib.hid hn; have HM := Lib.hid hm
  obtain ⟨i0, hi, hz0, hz1, hz2⟩ := info_parts int_info
  rw [h1] at C
  rw [h2] at D
  clear hx hy hn hm h1 h2
  go_enter Try.func33, Try.ntmps33
  go_wp2_with fail
  refine (C.out _ (((((HX.out.alloc _).alloc _).alloc _).alloc _))).mono ?_
  rintro e w1 ⟨rfl, hb⟩
  have hB := Below.trans (((((Below.refl w.heap.size w).alloc (by exact Nat.le_refl _) _).alloc (by simp <;> omega) _).alloc (by simp <;> omega) _).alloc (by simp <;> omega) _) (hb.mono (by simp; omega))
  have hx0 := keepblk hb (blk_alloc (blk_alloc (blk_alloc (heap_alloc_new w _))))
  have hx1 := keepblk hb (blk_alloc (blk_alloc (heap_alloc_new (w.alloc _) _)))
  have hx2 := keepblk hb (blk_alloc (heap_alloc_new ((w.alloc _).alloc _) _))
  have hx3 := keepblk hb (heap_alloc_new (((w.alloc _).alloc _).alloc _) _)
  simp only [World.size_alloc] at hx1 hx2 hx3
  have hs := hB.size
  have hl2 := lt_of_blk hx2
  clear hb
  obtain ⟨k1, f1⟩ := blkcell hx1
  go_wp2_with fail
  refine (D.out _ (HY.out.keep fun _ _ h => Below.keeps hB h)).mono ?_
  rintro e w2 ⟨rfl, hb⟩
  have hx0 := keepblk hb hx0
  have hx1 := keepblk hb hx1
  have hx2 := keepblk hb hx2
  have hx3 := keepblk hb hx3
  have hB := Below.trans hB (hb.mono hs)
  have hs := hB.size
  have hl2 := lt_of_blk hx2
  have hl3 := lt_of_blk hx3
  clear hb k1 f1
  have HB := Lib.hid hB
  have hx0 := Lib.hid hx0; have hx1 := Lib.hid hx1; have hx2 := Lib.hid hx2; have hx3' := Lib.hid hx3
  have hl4 : w.heap.size + 4 ≤ w2.heap.size := by omega
  clear hx3 hB hs
  go_wp2
  go_loopw [6] (fun i wr => ∃ (k : Nat) (v : Value), k ≤ 4 ∧ i = .int .i64 k ∧ Hid (wr.heap[w.heap.size]? = some (.cells #[.slice A 4 c] 30 (0, 0))) ∧ Hid (wr.heap[w.heap.size + 1]? = some (.cells #[.slice B 4 d] 30 (0, 0))) ∧ Hid (wr.heap[w.heap.size + 1 + 1]? = some (.cells #[.slice none 0 0] 30 (0, 0))) ∧ Hid (wr.heap[w.heap.size + 1 + 1 + 1]? = some (.cells #[v] 30 (0, 0))) ∧
    Hid (wr.ownsRow (w.heap.size + 4) 3 1 v k (((zipL min xs ys).take k).map (Value.int .i64))) ∧ Below w.heap.size w wr ∧ w.heap.size + 4 ≤ wr.heap.size) (fun i _ => 4 - (intOf i).toNat)
  case atStart => exact ⟨0, _, Nat.zero_le _, rfl, hx0.out, hx1.out, hx2.out, hx3'.out, own_none _ _ _, HB.out, hl4⟩
  case round =>
    obtain ⟨k, v, hk, rfl, hr0, hr1, hr2, hr3, hown, hB, hsz4⟩ := hrel
    have hsz := hB.size
    by_cases hlt : k < 4
    · obtain ⟨b, off, rfl, hbk, hcy⟩ := (Ints.at_ (HY.out) (k := k) (by have := HM.out; omega))
      have hcy := Below.keeps hB hcy
      obtain ⟨b', off', rfl, hbk', hcx⟩ := (Ints.at_ (HX.out) (k := k) (by have := HN.out; omega))
      have hcx := Below.keeps hB hcx
      have ey := Lib.hid (List.getElem?_eq_getElem (l := ys) (i := k) (by have := HM.out; omega))
      generalize ys[k]'(by have := HM.out; omega) = y1 at *
      have ex := Lib.hid (List.getElem?_eq_getElem (l := xs) (i := k) (by have := HN.out; omega))
      generalize xs[k]'(by have := HN.out; omega) = x1 at *
      have q0 : w.heap.size < wr.heap.size := by omega
      have q1 : w.heap.size + 1 < wr.heap.size := by omega
      have q2 : w.heap.size + 1 + 1 < wr.heap.size := by omega
      have q3 : w.heap.size + 1 + 1 + 1 < wr.heap.size := by omega
      obtain ⟨z, hz⟩ : ∃ z, z = min x1 y1 := ⟨_, rfl⟩
      have ez : (if y1 < x1 then y1 else x1) = z := by rw [hz]; simp only [Int.min_def]; split <;> split <;> omega
      have ez2 : (if x1 < y1 then x1 else y1) = z := by rw [hz]; simp only [Int.min_def]; split <;> split <;> omega
      have hzz := Lib.hid hz
      clear hz
      have hlt2 : (k : Int) < 4 := by omega
      have hk0 : (0 : Int) ≤ (k : Int) := by omega
      have hsn := Lib.hid (hzz.out ▸ zipL_snoc (f := min) ex.out ey.out)
      go_wp2_with fail
      have hvo := Lib.hid (fun g' (e : v.ownBlock = some g') => (hown.out.lt g' e).2)
      refine wp_region_fr (U := Value × Value × Value × Value × Value × Value × Value × Value × Value × Value × Value × Value × Value × Value × Value × Value) [[], [0], [], [2], [], [3, 4], [5], [], [7], [], [8, 9], [10], [6, 11], [12], [1, 13], [0, 1, 2, 3, 4, 5, 6, 7, 8, 9, 10, 11, 12, 13, 14], [15, 14, 14, 0, 1, 2, 3, 4, 5, 6, 7, 8, 9, 10, 11, 12, 13, 14]] (fun u => match u with | (u21, u22, u23, u24, u25, u26, u27, u28, u29, u30, u31, u32, u33, u34, u35, u36) => [(21, u21), (22, u22), (23, u23), (24, u24), (25, u25), (26, u26), (27, u27), (28, u28), (29, u29), (30, u30), (31, u31), (32, u32), (33, u33), (34, u34), (35, u35), (36, u36)]) (u21, u22, u23, u24, u25, u26, u27, u28, u29, u30, u31, u32, u33, u34, u35, u36) (fun l u x => match u with | (u21, u22, u23, u24, u25, u26, u27, u28, u29, u30, u31, u32, u33, u34, u35, u36) => (x.heap[w.heap.size]? = some (.cells #[.slice (some ⟨b', off', none⟩) 4 c] 30 (0, 0))) ∧ (x.heap[w.heap.size + 1]? = some (.cells #[.slice (some ⟨b, off, none⟩) 4 d] 30 (0, 0))) ∧ (x.heap[w.heap.size + 1 + 1]? = some (.cells #[.slice none 0 0] 30 (0, 0))) ∧ Hid (l.getD 16 false = false → x.heap[w.heap.size + 1 + 1 + 1]? = some (.cells #[v] 30 (0, 0))) ∧ (x.cell? ⟨b', off' + k, none⟩ = some (.int .i64 x1)) ∧ (x.cell? ⟨b, off + k, none⟩ = some (.int .i64 y1)) ∧ Hid (l.getD 14 false = false → x.ownsRow (w.heap.size + 4) 3 1 v k (((zipL min xs ys).take k).map (Value.int .i64))) ∧ (Below w.heap.size w x) ∧ (wr.heap.size ≤ x.heap.size) ∧ Hid (l.getD 16 false = true → AllOn l [15, 14, 14, 0, 1, 2, 3, 4, 5, 6, 7, 8, 9, 10, 11, 12, 13, 14]) ∧ Hid (l.getD 0 false = true → u21 = .pointer (some ⟨w.heap.size + 1 + 1 + 1, 0, none⟩)) ∧ Hid (l.getD 1 false = true → u22 = v) ∧ Hid (l.getD 2 false = true → u23 = .pointer (some ⟨w.heap.size, 0, none⟩)) ∧ Hid (l.getD 3 false = true → u24 = .slice (some ⟨b', off', none⟩) 4 c) ∧ Hid (l.getD 4 false = true → u25 = .int .i64 (k : Int)) ∧ Hid (l.getD 5 false = true → u26 = .pointer (some ⟨b', off' + k, none⟩)) ∧ Hid (l.getD 6 false = true → u27 = .int .i64 x1) ∧ Hid (l.getD 7 false = true → u28 = .pointer (some ⟨w.heap.size + 1, 0, none⟩)) ∧ Hid (l.getD 8 false = true → u29 = .slice (some ⟨b, off, none⟩) 4 d) ∧ Hid (l.getD 9 false = true → u30 = .int .i64 (k : Int)) ∧ Hid (l.getD 10 false = true → u31 = .pointer (some ⟨b, off + k, none⟩)) ∧ Hid (l.getD 11 false = true → u32 = .int .i64 y1) ∧ Hid (l.getD 12 false = true → u33 = .int .i64 z) ∧ Hid (l.getD 13 false = true → ∃ g : Nat, u34 = .slice (some ⟨g, 0, none⟩) 1 1 ∧ wr.heap.size ≤ g ∧ x.heap[g]? = some (.cells #[.int .i64 z] 3 (0, 0))) ∧ Hid (l.getD 14 false = true → ∃ gg cap : Nat, u35 = .slice (some ⟨gg, 0, none⟩) (k + 1) cap ∧ x.ownsRow (w.heap.size + 4) 3 1 (.slice (some ⟨gg, 0, none⟩) (k + 1) cap) (k + 1) (((zipL min xs ys).take (k + 1)).map (Value.int .i64))) ∧ Hid (l.getD 15 false = true → u36 = .pointer (some ⟨w.heap.size + 1 + 1 + 1, 0, none⟩)) ∧ Hid (l.getD 16 false = true → l.getD 14 false = true ∧ (∃ gg cap : Nat, u35 = .slice (some ⟨gg, 0, none⟩) (k + 1) cap ∧ x.heap[w.heap.size + 1 + 1 + 1]? = some (.cells #[.slice (some ⟨gg, 0, none⟩) (k + 1) cap] 30 (0, 0)) ∧ x.ownsRow (w.heap.size + 4) 3 1 (.slice (some ⟨gg, 0, none⟩) (k + 1) cap) (k + 1) (((zipL min xs ys).take (k + 1)).map (Value.int .i64))))) (by kernel_rfl) (by kernel_rfl) ?_ ?_ ?_ ?_
      · kernel_rfl
      · exact ⟨(by exact hr0.out), (by exact hr1.out), (by exact hr2.out), (fun _ => by exact hr3.out), (by exact hcx), (by exact hcy), (fun _ => by exact hown.out), (by exact hB.drew), (Nat.le_refl _), fun h => repl_off h, fun h => repl_off h, fun h => repl_off h, fun h => repl_off h, fun h => repl_off h, fun h => repl_off h, fun h => repl_off h, fun h => repl_off h, fun h => repl_off h, fun h => repl_off h, fun h => repl_off h, fun h => repl_off h, fun h => repl_off h, fun h => repl_off h, fun h => repl_off h, fun h => repl_off h, fun h => repl_off h, fun h => repl_off h⟩
      · refine ⟨?_, ?_, ?_, ?_, ?_, ?_, ?_, ?_, ?_, ?_, ?_, ?_, ?_, ?_, ?_, ?_, ?_, trivial⟩
        · refine ⟨rfl, ?_⟩
          rintro l ⟨u21, u22, u23, u24, u25, u26, u27, u28, u29, u30, u31, u32, u33, u34, u35, u36⟩ x ⟨r0, r1, r2, r3, hcx, hcy, hown, hB, hsx, HL, g0, g1, g2, g3, g4, g5, g6, g7, g8, g9, g10, g11, g12, g13, g14, g15, g16⟩ hun hpre K hK
          have r3 := r3.out (last_off HL (i := 0) (by decide) hun)
          clear hpre
          refine ⟨?_⟩
          simp only [Prod.forall, putAll, List.setIfInBounds_toArray, List.set_cons_zero, List.set_cons_succ] at hK ⊢
          go_simp
          exact hK _ _ _ _ _ _ _ _ _ _ _ _ _ _ _ _ _ ⟨r0, r1, r2, fun _ => r3, hcx, hcy, fun h => (hown.out (off_set h)), hB, hsx, fun h => allOn_keep (HL.out (on_set_other (by decide) h)), fun _ => rfl, fun h => g1.out (on_set_other (by decide) h), fun h => g2.out (on_set_other (by decide) h), fun h => g3.out (on_set_other (by decide) h), fun h => g4.out (on_set_other (by decide) h), fun h => g5.out (on_set_other (by decide) h), fun h => g6.out (on_set_other (by decide) h), fun h => g7.out (on_set_other (by decide) h), fun h => g8.out (on_set_other (by decide) h), fun h => g9.out (on_set_other (by decide) h), fun h => g10.out (on_set_other (by decide) h), fun h => g11.out (on_set_other (by decide) h), fun h => g12.out (on_set_other (by decide) h), fun h => g13.out (on_set_other (by decide) h), fun h => g14.out (on_set_other (by decide) h), fun h => g15.out (on_set_other (by decide) h), fun h => (fun ⟨o14, h2⟩ => ⟨on_keep o14, h2⟩) (g16.out (on_set_other (by decide) h))⟩
        · refine ⟨rfl, ?_⟩
          rintro l ⟨u21, u22, u23, u24, u25, u26, u27, u28, u29, u30, u31, u32, u33, u34, u35, u36⟩ x ⟨r0, r1, r2, r3, hcx, hcy, hown, hB, hsx, HL, g0, g1, g2, g3, g4, g5, g6, g7, g8, g9, g10, g11, g12, g13, g14, g15, g16⟩ hun hpre K hK
          have r3 := r3.out (last_off HL (i := 1) (by decide) hun)
          obtain ⟨e0, -⟩ := hpre
          obtain rfl := g0.out e0
          refine ⟨?_⟩
          simp only [Prod.forall, putAll, List.setIfInBounds_toArray, List.set_cons_zero, List.set_cons_succ] at hK ⊢
          obtain ⟨kq, fq⟩ := blkcell r3
          go_simp
          exact hK _ _ _ _ _ _ _ _ _ _ _ _ _ _ _ _ _ ⟨r0, r1, r2, fun _ => r3, hcx, hcy, fun h => (hown.out (off_set h)), hB, hsx, fun h => allOn_keep (HL.out (on_set_other (by decide) h)), fun h => g0.out (on_set_other (by decide) h), fun _ => rfl, fun h => g2.out (on_set_other (by decide) h), fun h => g3.out (on_set_other (by decide) h), fun h => g4.out (on_set_other (by decide) h), fun h => g5.out (on_set_other (by decide) h), fun h => g6.out (on_set_other (by decide) h), fun h => g7.out (on_set_other (by decide) h), fun h => g8.out (on_set_other (by decide) h), fun h => g9.out (on_set_other (by decide) h), fun h => g10.out (on_set_other (by decide) h), fun h => g11.out (on_set_other (by decide) h), fun h => g12.out (on_set_other (by decide) h), fun h => g13.out (on_set_other (by decide) h), fun h => g14.out (on_set_other (by decide) h), fun h => g15.out (on_set_other (by decide) h), fun h => (fun ⟨o14, h2⟩ => ⟨on_keep o14, h2⟩) (g16.out (on_set_other (by decide) h))⟩
        · refine ⟨rfl, ?_⟩
          rintro l ⟨u21, u22, u23, u24, u25, u26, u27, u28, u29, u30, u31, u32, u33, u34, u35, u36⟩ x ⟨r0, r1, r2, r3, hcx, hcy, hown, hB, hsx, HL, g0, g1, g2, g3, g4, g5, g6, g7, g8, g9, g10, g11, g12, g13, g14, g15, g16⟩ hun hpre K hK
          have r3 := r3.out (last_off HL (i := 2) (by decide) hun)
          clear hpre
          refine ⟨?_⟩
          simp only [Prod.forall, putAll, List.setIfInBounds_toArray, List.set_cons_zero, List.set_cons_succ] at hK ⊢
          go_simp
          exact hK _ _ _ _ _ _ _ _ _ _ _ _ _ _ _ _ _ ⟨r0, r1, r2, fun _ => r3, hcx, hcy, fun h => (hown.out (off_set h)), hB, hsx, fun h => allOn_keep (HL.out (on_set_other (by decide) h)), fun h => g0.out (on_set_other (by decide) h), fun h => g1.out (on_set_other (by decide) h), fun _ => rfl, fun h => g3.out (on_set_other (by decide) h), fun h => g4.out (on_set_other (by decide) h), fun h => g5.out (on_set_other (by decide) h), fun h => g6.out (on_set_other (by decide) h), fun h => g7.out (on_set_other (by decide) h), fun h => g8.out (on_set_other (by decide) h), fun h => g9.out (on_set_other (by decide) h), fun h => g10.out (on_set_other (by decide) h), fun h => g11.out (on_set_other (by decide) h), fun h => g12.out (on_set_other (by decide) h), fun h => g13.out (on_set_other (by decide) h), fun h => g14.out (on_set_other (by decide) h), fun h => g15.out (on_set_other (by decide) h), fun h => (fun ⟨o14, h2⟩ => ⟨on_keep o14, h2⟩) (g16.out (on_set_other (by decide) h))⟩
        · refine ⟨rfl, ?_⟩
          rintro l ⟨u21, u22, u23, u24, u25, u26, u27, u28, u29, u30, u31, u32, u33, u34, u35, u36⟩ x ⟨r0, r1, r2, r3, hcx, hcy, hown, hB, hsx, HL, g0, g1, g2, g3, g4, g5, g6, g7, g8, g9, g10, g11, g12, g13, g14, g15, g16⟩ hun hpre K hK
          have r3 := r3.out (last_off HL (i := 3) (by decide) hun)
          obtain ⟨e2, -⟩ := hpre
          obtain rfl := g2.out e2
          refine ⟨?_⟩
          simp only [Prod.forall, putAll, List.setIfInBounds_toArray, List.set_cons_zero, List.set_cons_succ] at hK ⊢
          obtain ⟨kq, fq⟩ := blkcell r0
          go_simp
          exact hK _ _ _ _ _ _ _ _ _ _ _ _ _ _ _ _ _ ⟨r0, r1, r2, fun _ => r3, hcx, hcy, fun h => (hown.out (off_set h)), hB, hsx, fun h => allOn_keep (HL.out (on_set_other (by decide) h)), fun h => g0.out (on_set_other (by decide) h), fun h => g1.out (on_set_other (by decide) h), fun h => g2.out (on_set_other (by decide) h), fun _ => rfl, fun h => g4.out (on_set_other (by decide) h), fun h => g5.out (on_set_other (by decide) h), fun h => g6.out (on_set_other (by decide) h), fun h => g7.out (on_set_other (by decide) h), fun h => g8.out (on_set_other (by decide) h), fun h => g9.out (on_set_other (by decide) h), fun h => g10.out (on_set_other (by decide) h), fun h => g11.out (on_set_other (by decide) h), fun h => g12.out (on_set_other (by decide) h), fun h => g13.out (on_set_other (by decide) h), fun h => g14.out (on_set_other (by decide) h), fun h => g15.out (on_set_other (by decide) h), fun h => (fun ⟨o14, h2⟩ => ⟨on_keep o14, h2⟩) (g16.out (on_set_other (by decide) h))⟩
        · refine ⟨rfl, ?_⟩
          rintro l ⟨u21, u22, u23, u24, u25, u26, u27, u28, u29, u30, u31, u32, u33, u34, u35, u36⟩ x ⟨r0, r1, r2, r3, hcx, hcy, hown, hB, hsx, HL, g0, g1, g2, g3, g4, g5, g6, g7, g8, g9, g10, g11, g12, g13, g14, g15, g16⟩ hun hpre K hK
          have r3 := r3.out (last_off HL (i := 4) (by decide) hun)
          clear hpre
          refine ⟨?_⟩
          simp only [Prod.forall, putAll, List.setIfInBounds_toArray, List.set_cons_zero, List.set_cons_succ] at hK ⊢
          go_simp
          exact hK _ _ _ _ _ _ _ _ _ _ _ _ _ _ _ _ _ ⟨r0, r1, r2, fun _ => r3, hcx, hcy, fun h => (hown.out (off_set h)), hB, hsx, fun h => allOn_keep (HL.out (on_set_other (by decide) h)), fun h => g0.out (on_set_other (by decide) h), fun h => g1.out (on_set_other (by decide) h), fun h => g2.out (on_set_other (by decide) h), fun h => g3.out (on_set_other (by decide) h), fun _ => rfl, fun h => g5.out (on_set_other (by decide) h), fun h => g6.out (on_set_other (by decide) h), fun h => g7.out (on_set_other (by decide) h), fun h => g8.out (on_set_other (by decide) h), fun h => g9.out (on_set_other (by decide) h), fun h => g10.out (on_set_other (by decide) h), fun h => g11.out (on_set_other (by decide) h), fun h => g12.out (on_set_other (by decide) h), fun h => g13.out (on_set_other (by decide) h), fun h => g14.out (on_set_other (by decide) h), fun h => g15.out (on_set_other (by decide) h), fun h => (fun ⟨o14, h2⟩ => ⟨on_keep o14, h2⟩) (g16.out (on_set_other (by decide) h))⟩
        · refine ⟨rfl, ?_⟩
          rintro l ⟨u21, u22, u23, u24, u25, u26, u27, u28, u29, u30, u31, u32, u33, u34, u35, u36⟩ x ⟨r0, r1, r2, r3, hcx, hcy, hown, hB, hsx, HL, g0, g1, g2, g3, g4, g5, g6, g7, g8, g9, g10, g11, g12, g13, g14, g15, g16⟩ hun hpre K hK
          have r3 := r3.out (last_off HL (i := 5) (by decide) hun)
          obtain ⟨e3, e4, -⟩ := hpre
          obtain rfl := g3.out e3
          obtain rfl := g4.out e4
          refine ⟨?_⟩
          simp only [Prod.forall, putAll, List.setIfInBounds_toArray, List.set_cons_zero, List.set_cons_succ] at hK ⊢
          go_simp
          exact hK _ _ _ _ _ _ _ _ _ _ _ _ _ _ _ _ _ ⟨r0, r1, r2, fun _ => r3, hcx, hcy, fun h => (hown.out (off_set h)), hB, hsx, fun h => allOn_keep (HL.out (on_set_other (by decide) h)), fun h => g0.out (on_set_other (by decide) h), fun h => g1.out (on_set_other (by decide) h), fun h => g2.out (on_set_other (by decide) h), fun h => g3.out (on_set_other (by decide) h), fun h => g4.out (on_set_other (by decide) h), fun _ => rfl, fun h => g6.out (on_set_other (by decide) h), fun h => g7.out (on_set_other (by decide) h), fun h => g8.out (on_set_other (by decide) h), fun h => g9.out (on_set_other (by decide) h), fun h => g10.out (on_set_other (by decide) h), fun h => g11.out (on_set_other (by decide) h), fun h => g12.out (on_set_other (by decide) h), fun h => g13.out (on_set_other (by decide) h), fun h => g14.out (on_set_other (by decide) h), fun h => g15.out (on_set_other (by decide) h), fun h => (fun ⟨o14, h2⟩ => ⟨on_keep o14, h2⟩) (g16.out (on_set_other (by decide) h))⟩
        · refine ⟨rfl, ?_⟩
          rintro l ⟨u21, u22, u23, u24, u25, u26, u27, u28, u29, u30, u31, u32, u33, u34, u35, u36⟩ x ⟨r0, r1, r2, r3, hcx, hcy, hown, hB, hsx, HL, g0, g1, g2, g3, g4, g5, g6, g7, g8, g9, g10, g11, g12, g13, g14, g15, g16⟩ hun hpre K hK
          have r3 := r3.out (last_off HL (i := 6) (by decide) hun)
          obtain ⟨e5, -⟩ := hpre
          obtain rfl := g5.out e5
          refine ⟨?_⟩
          simp only [Prod.forall, putAll, List.setIfInBounds_toArray, List.set_cons_zero, List.set_cons_succ] at hK ⊢
          go_simp
          exact hK _ _ _ _ _ _ _ _ _ _ _ _ _ _ _ _ _ ⟨r0, r1, r2, fun _ => r3, hcx, hcy, fun h => (hown.out (off_set h)), hB, hsx, fun h => allOn_keep (HL.out (on_set_other (by decide) h)), fun h => g0.out (on_set_other (by decide) h), fun h => g1.out (on_set_other (by decide) h), fun h => g2.out (on_set_other (by decide) h), fun h => g3.out (on_set_other (by decide) h), fun h => g4.out (on_set_other (by decide) h), fun h => g5.out (on_set_other (by decide) h), fun _ => rfl, fun h => g7.out (on_set_other (by decide) h), fun h => g8.out (on_set_other (by decide) h), fun h => g9.out (on_set_other (by decide) h), fun h => g10.out (on_set_other (by decide) h), fun h => g11.out (on_set_other (by decide) h), fun h => g12.out (on_set_other (by decide) h), fun h => g13.out (on_set_other (by decide) h), fun h => g14.out (on_set_other (by decide) h), fun h => g15.out (on_set_other (by decide) h), fun h => (fun ⟨o14, h2⟩ => ⟨on_keep o14, h2⟩) (g16.out (on_set_other (by decide) h))⟩
        · refine ⟨rfl, ?_⟩
          rintro l ⟨u21, u22, u23, u24, u25, u26, u27, u28, u29, u30, u31, u32, u33, u34, u35, u36⟩ x ⟨r0, r1, r2, r3, hcx, hcy, hown, hB, hsx, HL, g0, g1, g2, g3, g4, g5, g6, g7, g8, g9, g10, g11, g12, g13, g14, g15, g16⟩ hun hpre K hK
          have r3 := r3.out (last_off HL (i := 7) (by decide) hun)
          clear hpre
          refine ⟨?_⟩
          simp only [Prod.forall, putAll, List.setIfInBounds_toArray, List.set_cons_zero, List.set_cons_succ] at hK ⊢
          go_simp
          exact hK _ _ _ _ _ _ _ _ _ _ _ _ _ _ _ _ _ ⟨r0, r1, r2, fun _ => r3, hcx, hcy, fun h => (hown.out (off_set h)), hB, hsx, fun h => allOn_keep (HL.out (on_set_other (by decide) h)), fun h => g0.out (on_set_other (by decide) h), fun h => g1.out (on_set_other (by decide) h), fun h => g2.out (on_set_other (by decide) h), fun h => g3.out (on_set_other (by decide) h), fun h => g4.out (on_set_other (by decide) h), fun h => g5.out (on_set_other (by decide) h), fun h => g6.out (on_set_other (by decide) h), fun _ => rfl, fun h => g8.out (on_set_other (by decide) h), fun h => g9.out (on_set_other (by decide) h), fun h => g10.out (on_set_other (by decide) h), fun h => g11.out (on_set_other (by decide) h), fun h => g12.out (on_set_other (by decide) h), fun h => g13.out (on_set_other (by decide) h), fun h => g14.out (on_set_other (by decide) h), fun h => g15.out (on_set_other (by decide) h), fun h => (fun ⟨o14, h2⟩ => ⟨on_keep o14, h2⟩) (g16.out (on_set_other (by decide) h))⟩
        · refine ⟨rfl, ?_⟩
          rintro l ⟨u21, u22, u23, u24, u25, u26, u27, u28, u29, u30, u31, u32, u33, u34, u35, u36⟩ x ⟨r0, r1, r2, r3, hcx, hcy, hown, hB, hsx, HL, g0, g1, g2, g3, g4, g5, g6, g7, g8, g9, g10, g11, g12, g13, g14, g15, g16⟩ hun hpre K hK
          have r3 := r3.out (last_off HL (i := 8) (by decide) hun)
          obtain ⟨e7, -⟩ := hpre
          obtain rfl := g7.out e7
          refine ⟨?_⟩
          simp only [Prod.forall, putAll, List.setIfInBounds_toArray, List.set_cons_zero, List.set_cons_succ] at hK ⊢
          obtain ⟨kq, fq⟩ := blkcell r1
          go_simp
          exact hK _ _ _ _ _ _ _ _ _ _ _ _ _ _ _ _ _ ⟨r0, r1, r2, fun _ => r3, hcx, hcy, fun h => (hown.out (off_set h)), hB, hsx, fun h => allOn_keep (HL.out (on_set_other (by decide) h)), fun h => g0.out (on_set_other (by decide) h), fun h => g1.out (on_set_other (by decide) h), fun h => g2.out (on_set_other (by decide) h), fun h => g3.out (on_set_other (by decide) h), fun h => g4.out (on_set_other (by decide) h), fun h => g5.out (on_set_other (by decide) h), fun h => g6.out (on_set_other (by decide) h), fun h => g7.out (on_set_other (by decide) h), fun _ => rfl, fun h => g9.out (on_set_other (by decide) h), fun h => g10.out (on_set_other (by decide) h), fun h => g11.out (on_set_other (by decide) h), fun h => g12.out (on_set_other (by decide) h), fun h => g13.out (on_set_other (by decide) h), fun h => g14.out (on_set_other (by decide) h), fun h => g15.out (on_set_other (by decide) h), fun h => (fun ⟨o14, h2⟩ => ⟨on_keep o14, h2⟩) (g16.out (on_set_other (by decide) h))⟩
        · refine ⟨rfl, ?_⟩
          rintro l ⟨u21, u22, u23, u24, u25, u26, u27, u28, u29, u30, u31, u32, u33, u34, u35, u36⟩ x ⟨r0, r1, r2, r3, hcx, hcy, hown, hB, hsx, HL, g0, g1, g2, g3, g4, g5, g6, g7, g8, g9, g10, g11, g12, g13, g14, g15, g16⟩ hun hpre K hK
          have r3 := r3.out (last_off HL (i := 9) (by decide) hun)
          clear hpre
          refine ⟨?_⟩
          simp only [Prod.forall, putAll, List.setIfInBounds_toArray, List.set_cons_zero, List.set_cons_succ] at hK ⊢
          go_simp
          exact hK _ _ _ _ _ _ _ _ _ _ _ _ _ _ _ _ _ ⟨r0, r1, r2, fun _ => r3, hcx, hcy, fun h => (hown.out (off_set h)), hB, hsx, fun h => allOn_keep (HL.out (on_set_other (by decide) h)), fun h => g0.out (on_set_other (by decide) h), fun h => g1.out (on_set_other (by decide) h), fun h => g2.out (on_set_other (by decide) h), fun h => g3.out (on_set_other (by decide) h), fun h => g4.out (on_set_other (by decide) h), fun h => g5.out (on_set_other (by decide) h), fun h => g6.out (on_set_other (by decide) h), fun h => g7.out (on_set_other (by decide) h), fun h => g8.out (on_set_other (by decide) h), fun _ => rfl, fun h => g10.out (on_set_other (by decide) h), fun h => g11.out (on_set_other (by decide) h), fun h => g12.out (on_set_other (by decide) h), fun h => g13.out (on_set_other (by decide) h), fun h => g14.out (on_set_other (by decide) h), fun h => g15.out (on_set_other (by decide) h), fun h => (fun ⟨o14, h2⟩ => ⟨on_keep o14, h2⟩) (g16.out (on_set_other (by decide) h))⟩
        · refine ⟨rfl, ?_⟩
          rintro l ⟨u21, u22, u23, u24, u25, u26, u27, u28, u29, u30, u31, u32, u33, u34, u35, u36⟩ x ⟨r0, r1, r2, r3, hcx, hcy, hown, hB, hsx, HL, g0, g1, g2, g3, g4, g5, g6, g7, g8, g9, g10, g11, g12, g13, g14, g15, g16⟩ hun hpre K hK
          have r3 := r3.out (last_off HL (i := 10) (by decide) hun)
          obtain ⟨e8, e9, -⟩ := hpre
          obtain rfl := g8.out e8
          obtain rfl := g9.out e9
          refine ⟨?_⟩
          simp only [Prod.forall, putAll, List.setIfInBounds_toArray, List.set_cons_zero, List.set_cons_succ] at hK ⊢
          go_simp
          exact hK _ _ _ _ _ _ _ _ _ _ _ _ _ _ _ _ _ ⟨r0, r1, r2, fun _ => r3, hcx, hcy, fun h => (hown.out (off_set h)), hB, hsx, fun h => allOn_keep (HL.out (on_set_other (by decide) h)), fun h => g0.out (on_set_other (by decide) h), fun h => g1.out (on_set_other (by decide) h), fun h => g2.out (on_set_other (by decide) h), fun h => g3.out (on_set_other (by decide) h), fun h => g4.out (on_set_other (by decide) h), fun h => g5.out (on_set_other (by decide) h), fun h => g6.out (on_set_other (by decide) h), fun h => g7.out (on_set_other (by decide) h), fun h => g8.out (on_set_other (by decide) h), fun h => g9.out (on_set_other (by decide) h), fun _ => rfl, fun h => g11.out (on_set_other (by decide) h), fun h => g12.out (on_set_other (by decide) h), fun h => g13.out (on_set_other (by decide) h), fun h => g14.out (on_set_other (by decide) h), fun h => g15.out (on_set_other (by decide) h), fun h => (fun ⟨o14, h2⟩ => ⟨on_keep o14, h2⟩) (g16.out (on_set_other (by decide) h))⟩
        · refine ⟨rfl, ?_⟩
          rintro l ⟨u21, u22, u23, u24, u25, u26, u27, u28, u29, u30, u31, u32, u33, u34, u35, u36⟩ x ⟨r0, r1, r2, r3, hcx, hcy, hown, hB, hsx, HL, g0, g1, g2, g3, g4, g5, g6, g7, g8, g9, g10, g11, g12, g13, g14, g15, g16⟩ hun hpre K hK
          have r3 := r3.out (last_off HL (i := 11) (by decide) hun)
          obtain ⟨e10, -⟩ := hpre
          obtain rfl := g10.out e10
          refine ⟨?_⟩
          simp only [Prod.forall, putAll, List.setIfInBounds_toArray, List.set_cons_zero, List.set_cons_succ] at hK ⊢
          go_simp
          exact hK _ _ _ _ _ _ _ _ _ _ _ _ _ _ _ _ _ ⟨r0, r1, r2, fun _ => r3, hcx, hcy, fun h => (hown.out (off_set h)), hB, hsx, fun h => allOn_keep (HL.out (on_set_other (by decide) h)), fun h => g0.out (on_set_other (by decide) h), fun h => g1.out (on_set_other (by decide) h), fun h => g2.out (on_set_other (by decide) h), fun h => g3.out (on_set_other (by decide) h), fun h => g4.out (on_set_other (by decide) h), fun h => g5.out (on_set_other (by decide) h), fun h => g6.out (on_set_other (by decide) h), fun h => g7.out (on_set_other (by decide) h), fun h => g8.out (on_set_other (by decide) h), fun h => g9.out (on_set_other (by decide) h), fun h => g10.out (on_set_other (by decide) h), fun _ => rfl, fun h => g12.out (on_set_other (by decide) h), fun h => g13.out (on_set_other (by decide) h), fun h => g14.out (on_set_other (by decide) h), fun h => g15.out (on_set_other (by decide) h), fun h => (fun ⟨o14, h2⟩ => ⟨on_keep o14, h2⟩) (g16.out (on_set_other (by decide) h))⟩
        · refine ⟨rfl, ?_⟩
          rintro l ⟨u21, u22, u23, u24, u25, u26, u27, u28, u29, u30, u31, u32, u33, u34, u35, u36⟩ x ⟨r0, r1, r2, r3, hcx, hcy, hown, hB, hsx, HL, g0, g1, g2, g3, g4, g5, g6, g7, g8, g9, g10, g11, g12, g13, g14, g15, g16⟩ hun hpre K hK
          have r3 := r3.out (last_off HL (i := 12) (by decide) hun)
          obtain ⟨e6, e11, -⟩ := hpre
          obtain rfl := g6.out e6
          obtain rfl := g11.out e11
          refine ⟨?_⟩
          simp only [Prod.forall, putAll, List.setIfInBounds_toArray, List.set_cons_zero, List.set_cons_succ] at hK ⊢
          go_simp
          exact hK _ _ _ _ _ _ _ _ _ _ _ _ _ _ _ _ _ ⟨r0, r1, r2, fun _ => r3, hcx, hcy, fun h => (hown.out (off_set h)), hB, hsx, fun h => allOn_keep (HL.out (on_set_other (by decide) h)), fun h => g0.out (on_set_other (by decide) h), fun h => g1.out (on_set_other (by decide) h), fun h => g2.out (on_set_other (by decide) h), fun h => g3.out (on_set_other (by decide) h), fun h => g4.out (on_set_other (by decide) h), fun h => g5.out (on_set_other (by decide) h), fun h => g6.out (on_set_other (by decide) h), fun h => g7.out (on_set_other (by decide) h), fun h => g8.out (on_set_other (by decide) h), fun h => g9.out (on_set_other (by decide) h), fun h => g10.out (on_set_other (by decide) h), fun h => g11.out (on_set_other (by decide) h), fun _ => rfl, fun h => g13.out (on_set_other (by decide) h), fun h => g14.out (on_set_other (by decide) h), fun h => g15.out (on_set_other (by decide) h), fun h => (fun ⟨o14, h2⟩ => ⟨on_keep o14, h2⟩) (g16.out (on_set_other (by decide) h))⟩
        · refine ⟨rfl, ?_⟩
          rintro l ⟨u21, u22, u23, u24, u25, u26, u27, u28, u29, u30, u31, u32, u33, u34, u35, u36⟩ x ⟨r0, r1, r2, r3, hcx, hcy, hown, hB, hsx, HL, g0, g1, g2, g3, g4, g5, g6, g7, g8, g9, g10, g11, g12, g13, g14, g15, g16⟩ hun hpre K hK
          have r3 := r3.out (last_off HL (i := 13) (by decide) hun)
          obtain ⟨e12, -⟩ := hpre
          obtain rfl := g12.out e12
          refine ⟨?_⟩
          simp only [Prod.forall, putAll, List.setIfInBounds_toArray, List.set_cons_zero, List.set_cons_succ] at hK ⊢
          go_simp
          exact hK _ _ _ _ _ _ _ _ _ _ _ _ _ _ _ _ _ ⟨blk_alloc (r0), blk_alloc (r1), blk_alloc (r2), fun _ => blk_alloc (r3), cell_alloc_ (hcx), cell_alloc_ (hcy), fun h => ((hown.out (off_set h))).alloc _, hB.alloc hB.size _, (Nat.le_trans hsx (by simp)), fun h => allOn_keep (HL.out (on_set_other (by decide) h)), fun h => g0.out (on_set_other (by decide) h), fun h => g1.out (on_set_other (by decide) h), fun h => g2.out (on_set_other (by decide) h), fun h => g3.out (on_set_other (by decide) h), fun h => g4.out (on_set_other (by decide) h), fun h => g5.out (on_set_other (by decide) h), fun h => g6.out (on_set_other (by decide) h), fun h => g7.out (on_set_other (by decide) h), fun h => g8.out (on_set_other (by decide) h), fun h => g9.out (on_set_other (by decide) h), fun h => g10.out (on_set_other (by decide) h), fun h => g11.out (on_set_other (by decide) h), fun h => g12.out (on_set_other (by decide) h), fun _ => ⟨_, rfl, hsx, heap_alloc_new x _⟩, fun h => (fun ⟨gg, cap, h1, h3⟩ => ⟨gg, cap, h1, h3.alloc _⟩) (g14.out (on_set_other (by decide) h)), fun h => g15.out (on_set_other (by decide) h), fun h => (fun ⟨o14, h2⟩ => ⟨on_keep o14, (fun ⟨gg, cap, h1, h2, h3⟩ => ⟨gg, cap, h1, blk_alloc h2, h3.alloc _⟩) h2⟩) (g16.out (on_set_other (by decide) h))⟩
        · refine ⟨rfl, ?_⟩
          rintro l ⟨u21, u22, u23, u24, u25, u26, u27, u28, u29, u30, u31, u32, u33, u34, u35, u36⟩ x ⟨r0, r1, r2, r3, hcx, hcy, hown, hB, hsx, HL, g0, g1, g2, g3, g4, g5, g6, g7, g8, g9, g10, g11, g12, g13, g14, g15, g16⟩ hun hpre K hK
          have r3 := r3.out (last_off HL (i := 14) (by decide) hun)
          have hown := hown.out (off_self hun)
          obtain ⟨e1, e13, -⟩ := hpre
          obtain rfl := g1.out e1
          obtain ⟨gn, rfl, hgl, hgn⟩ := g13.out e13
          refine ⟨?_⟩
          simp only [Prod.forall, putAll, List.setIfInBounds_toArray, List.set_cons_zero, List.set_cons_succ] at hK ⊢
          refine wp_append_lies _ (.tmp 22) (.tmp 34) 22 (by rfl) (w.heap.size + 4) 3 i0 (.int .i64 0) 1 8 Try.underlying22 hi hz0 hz1 hz2 rfl (by omega) _ k _ (by rfl) hown ⟨gn, 0, none⟩ 1 1 [.int .i64 z] (by rfl) (by rfl) (World.news_of_block (cs := #[.int .i64 z]) (t := 3) (fr := (0, 0)) hgn) (by intro u hu; simp at hu; subst hu; rfl) (by omega) (by unfold maxLen; omega) (by omega) (by omega) x.heap.size rfl ?_
          intro gg cap x2 hown1 hgrow hat hlt4
          have hnew : x2.ownsRow (w.heap.size + 4) 3 1 (.slice (some ⟨gg, 0, none⟩) (k + 1) cap) (k + 1) (((zipL min xs ys).take (k + 1)).map (Value.int .i64)) := by rw [hsn.out]; simpa using hown1
          exact hK _ _ _ _ _ _ _ _ _ _ _ _ _ _ _ _ _ ⟨blk_app hown hgrow (r0) (by omega), blk_app hown hgrow (r1) (by omega), blk_app hown hgrow (r2) (by omega), fun _ => blk_app hown hgrow (r3) (by omega), cell_app hown hgrow (hcx) (by (try dsimp only); omega), cell_app hown hgrow (hcy) (by (try dsimp only); omega), fun h => self_absurd hun h, below_app hown hgrow hB (by omega) hB.size, (Nat.le_trans hsx hgrow.size), fun h => allOn_keep (HL.out (on_set_other (by decide) h)), fun h => g0.out (on_set_other (by decide) h), fun h => g1.out (on_set_other (by decide) h), fun h => g2.out (on_set_other (by decide) h), fun h => g3.out (on_set_other (by decide) h), fun h => g4.out (on_set_other (by decide) h), fun h => g5.out (on_set_other (by decide) h), fun h => g6.out (on_set_other (by decide) h), fun h => g7.out (on_set_other (by decide) h), fun h => g8.out (on_set_other (by decide) h), fun h => g9.out (on_set_other (by decide) h), fun h => g10.out (on_set_other (by decide) h), fun h => g11.out (on_set_other (by decide) h), fun h => g12.out (on_set_other (by decide) h), fun h => (fun ⟨g, h1, h2, h3⟩ => ⟨g, h1, h2, (hgrow.block g (lt_of_blk h3) (fun e => by have := hvo.out g e.symm; omega)).trans h3⟩) (g13.out (on_set_other (by decide) h)), fun _ => ⟨gg, cap, rfl, hnew⟩, fun h => g15.out (on_set_other (by decide) h), fun h => off_of_on hun (g16.out (on_set_other (by decide) h)).1⟩
        · refine ⟨rfl, ?_⟩
          rintro l ⟨u21, u22, u23, u24, u25, u26, u27, u28, u29, u30, u31, u32, u33, u34, u35, u36⟩ x ⟨r0, r1, r2, r3, hcx, hcy, hown, hB, hsx, HL, g0, g1, g2, g3, g4, g5, g6, g7, g8, g9, g10, g11, g12, g13, g14, g15, g16⟩ hun hpre K hK
          have r3 := r3.out (last_off HL (i := 15) (by decide) hun)
          obtain ⟨e0, e1, e2, e3, e4, e5, e6, e7, e8, e9, e10, e11, e12, e13, e14, -⟩ := hpre
          obtain rfl := g0.out e0
          obtain rfl := g1.out e1
          obtain rfl := g2.out e2
          obtain rfl := g3.out e3
          obtain rfl := g4.out e4
          obtain rfl := g5.out e5
          obtain rfl := g6.out e6
          obtain rfl := g7.out e7
          obtain rfl := g8.out e8
          obtain rfl := g9.out e9
          obtain rfl := g10.out e10
          obtain rfl := g11.out e11
          obtain rfl := g12.out e12
          obtain ⟨gn, rfl, hgl, hgn⟩ := g13.out e13
          obtain ⟨gg, cap, rfl, hnew⟩ := g14.out e14
          refine ⟨?_⟩
          simp only [Prod.forall, putAll, List.setIfInBounds_toArray, List.set_cons_zero, List.set_cons_succ] at hK ⊢
          go_simp
          exact hK _ _ _ _ _ _ _ _ _ _ _ _ _ _ _ _ _ ⟨r0, r1, r2, fun _ => r3, hcx, hcy, fun h => (hown.out (off_set h)), hB, hsx, fun h => allOn_keep (HL.out (on_set_other (by decide) h)), fun h => g0.out (on_set_other (by decide) h), fun h => g1.out (on_set_other (by decide) h), fun h => g2.out (on_set_other (by decide) h), fun h => g3.out (on_set_other (by decide) h), fun h => g4.out (on_set_other (by decide) h), fun h => g5.out (on_set_other (by decide) h), fun h => g6.out (on_set_other (by decide) h), fun h => g7.out (on_set_other (by decide) h), fun h => g8.out (on_set_other (by decide) h), fun h => g9.out (on_set_other (by decide) h), fun h => g10.out (on_set_other (by decide) h), fun h => g11.out (on_set_other (by decide) h), fun h => g12.out (on_set_other (by decide) h), fun h => g13.out (on_set_other (by decide) h), fun h => g14.out (on_set_other (by decide) h), fun _ => rfl, fun h => (fun ⟨o14, h2⟩ => ⟨on_keep o14, h2⟩) (g16.out (on_set_other (by decide) h))⟩
        · refine ⟨rfl, ?_⟩
          rintro l ⟨u21, u22, u23, u24, u25, u26, u27, u28, u29, u30, u31, u32, u33, u34, u35, u36⟩ x ⟨r0, r1, r2, r3, hcx, hcy, hown, hB, hsx, HL, g0, g1, g2, g3, g4, g5, g6, g7, g8, g9, g10, g11, g12, g13, g14, g15, g16⟩ hun hpre K hK
          have hpre0 := hpre
          have r3 := r3.out (off_self hun)
          obtain ⟨e15, e14, _, e0, e1, e2, e3, e4, e5, e6, e7, e8, e9, e10, e11, e12, e13, _, -⟩ := hpre
          obtain rfl := g0.out e0
          obtain rfl := g1.out e1
          obtain rfl := g2.out e2
          obtain rfl := g3.out e3
          obtain rfl := g4.out e4
          obtain rfl := g5.out e5
          obtain rfl := g6.out e6
          obtain rfl := g7.out e7
          obtain rfl := g8.out e8
          obtain rfl := g9.out e9
          obtain rfl := g10.out e10
          obtain rfl := g11.out e11
          obtain rfl := g12.out e12
          obtain ⟨gn, rfl, hgl, hgn⟩ := g13.out e13
          obtain ⟨gg, cap, rfl, hnew⟩ := g14.out e14
          obtain rfl := g15.out e15
          refine ⟨?_⟩
          simp only [Prod.forall, putAll, List.setIfInBounds_toArray, List.set_cons_zero, List.set_cons_succ] at hK ⊢
          obtain ⟨k3, f3⟩ := blkcell r3
          go_simp
          have hnew2 := ownsRow_setCell_below (a := ⟨w.heap.size + 1 + 1 + 1, 0, none⟩) hnew (by show w.heap.size + 1 + 1 + 1 < w.heap.size + 4; omega) (.slice (some ⟨gg, 0, none⟩) (k + 1) cap)
          exact hK _ _ _ _ _ _ _ _ _ _ _ _ _ _ _ _ _ ⟨blk_far (r0) (by (try dsimp only); omega) _, blk_far (r1) (by (try dsimp only); omega) _, blk_far (r2) (by (try dsimp only); omega) _, fun h => self_absurd hun h, cell_set_ (hcx) (by (try dsimp only); omega), cell_set_ (hcy) (by (try dsimp only); omega), fun h => absurd (off_set h) (by rw [e14]; decide), hB.setCell (by (try dsimp only); omega) _, (by simpa using hsx), fun _ => allOn_keep hpre0, fun h => g0.out (on_set_other (by decide) h), fun h => g1.out (on_set_other (by decide) h), fun h => g2.out (on_set_other (by decide) h), fun h => g3.out (on_set_other (by decide) h), fun h => g4.out (on_set_other (by decide) h), fun h => g5.out (on_set_other (by decide) h), fun h => g6.out (on_set_other (by decide) h), fun h => g7.out (on_set_other (by decide) h), fun h => g8.out (on_set_other (by decide) h), fun h => g9.out (on_set_other (by decide) h), fun h => g10.out (on_set_other (by decide) h), fun h => g11.out (on_set_other (by decide) h), fun h => g12.out (on_set_other (by decide) h), fun h => (fun ⟨g, h1, h2, h3⟩ => ⟨g, h1, h2, blk_far h3 (by (try dsimp only); omega) _⟩) (g13.out (on_set_other (by decide) h)), fun h => ⟨gg, cap, rfl, hnew2⟩, fun h => g15.out (on_set_other (by decide) h), fun _ => ⟨on_keep e14, ⟨gg, cap, rfl, blk_set (i := 0) r3 _, hnew2⟩⟩⟩
      · rintro l ⟨u21, u22, u23, u24, u25, u26, u27, u28, u29, u30, u31, u32, u33, u34, u35, u36⟩ x ⟨r0, r1, r2, r3, hcx, hcy, hown, hB, hsx, HL, g0, g1, g2, g3, g4, g5, g6, g7, g8, g9, g10, g11, g12, g13, g14, g15, g16⟩ hon
        have e0 := hon (j := 0) rfl trivial
        have e1 := hon (j := 1) rfl ⟨e0, trivial⟩
        have e2 := hon (j := 2) rfl trivial
        have e3 := hon (j := 3) rfl ⟨e2, trivial⟩
        have e4 := hon (j := 4) rfl trivial
        have e5 := hon (j := 5) rfl ⟨e3, e4, trivial⟩
        have e6 := hon (j := 6) rfl ⟨e5, trivial⟩
        have e7 := hon (j := 7) rfl trivial
        have e8 := hon (j := 8) rfl ⟨e7, trivial⟩
        have e9 := hon (j := 9) rfl trivial
        have e10 := hon (j := 10) rfl ⟨e8, e9, trivial⟩
        have e11 := hon (j := 11) rfl ⟨e10, trivial⟩
        have e12 := hon (j := 12) rfl ⟨e6, e11, trivial⟩
        have e13 := hon (j := 13) rfl ⟨e12, trivial⟩
        have e14 := hon (j := 14) rfl ⟨e1, e13, trivial⟩
        have e15 := hon (j := 15) rfl ⟨e0, e1, e2, e3, e4, e5, e6, e7, e8, e9, e10, e11, e12, e13, e14, trivial⟩
        have e16 := hon (j := 16) rfl ⟨e15, e14, e14, e0, e1, e2, e3, e4, e5, e6, e7, e8, e9, e10, e11, e12, e13, e14, trivial⟩
        obtain rfl := g0.out e0; clear g0
        obtain rfl := g1.out e1; clear g1
        obtain rfl := g2.out e2; clear g2
        obtain rfl := g3.out e3; clear g3
        obtain rfl := g4.out e4; clear g4
        obtain rfl := g5.out e5; clear g5
        obtain rfl := g6.out e6; clear g6
        obtain rfl := g7.out e7; clear g7
        obtain rfl := g8.out e8; clear g8
        obtain rfl := g9.out e9; clear g9
        obtain rfl := g10.out e10; clear g10
        obtain rfl := g11.out e11; clear g11
        obtain rfl := g12.out e12; clear g12
        obtain ⟨gn, rfl, hgl, hgn⟩ := g13.out e13; clear g13
        clear g14
        obtain rfl := g15.out e15; clear g15
        obtain ⟨-, ⟨gg, cap, rfl, hbx, hnew⟩⟩ := g16.out e16; clear g16
        clear hon r3 hown HL e0 e1 e2 e3 e4 e5 e6 e7 e8 e9 e10 e11 e12 e13 e14 e15 e16 l
        refine ⟨?_⟩
        simp only [Prod.forall, putAll, List.setIfInBounds_toArray, List.set_cons_zero, List.set_cons_succ]
        have hr3 := Lib.hid hbx
        have hown := Lib.hid hnew
        have hr0 := Lib.hid r0; have hr1 := Lib.hid r1; have hr2 := Lib.hid r2
        clear hbx hnew r0 r1 r2 hcx hcy
        have hs1 : w.heap.size + 4 ≤ x.heap.size := by omega
        go_wp2
        exact ⟨⟨k + 1, _, by omega, by go_num, hr0, hr1, hr2, hr3, hown, hB, hs1⟩, by simp [intOf]; omega⟩
    · obtain rfl : k = 4 := by omega
      have hl := Lib.hid (zipL_len min HN.out HM.out)
      have hown' := Lib.hid (show wr.ownsRow (w.heap.size + 4) 3 1 v 4 ((zipL min xs ys).map (Value.int .i64)) by have := hown.out; rwa [List.take_of_length_le (by have := hl.out; omega)] at this)
      obtain ⟨AA, cc, rfl, hOw⟩ := own_of_row hown'.out
      obtain ⟨kb, fb⟩ := blkcell hr3.out
      obtain ⟨kb0, fb0⟩ := blkcell hr2.out
      have ho := Lib.hid ((hOw.setFar (p := ⟨w.heap.size + 1 + 1, 0, none⟩) (by show w.heap.size + 1 + 1 < w.heap.size + 4; omega) (.slice AA 4 cc)).more (show w.heap.size ≤ w.heap.size + 4 by omega))
      have q2 : w.heap.size + 1 + 1 < wr.heap.size := by omega
      have q3 : w.heap.size + 1 + 1 + 1 < wr.heap.size := by omega
      clear hOw hown hown' hr3 hr2
      go_wp2
      refine bodyPost_ret (v := lab AA 4 cc) (by simp [results, Try.results33, go_sem, *]) rfl ⟨AA, cc, by rw [hl.out], ho.out, hB.setCell (by show w.heap.size ≤ w.heap.size + 1 + 1; omega) _⟩

end Go.Proofs.Ytkcchceoljlnaaa
