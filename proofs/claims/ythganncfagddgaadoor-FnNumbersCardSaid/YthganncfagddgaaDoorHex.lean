/- Contracts of Hex. -/
import Derived.Test.YthganncfagddgaaDoorVar
import Derived.Deep.RegionHeld3
import Derived.Deep.AppendLies
import Derived.Deep.DrawnRows
import Derived.IntWalk
import Derived.Lib.BufferRead
namespace Go.Proofs.YthganncfagddgaaDoor
set_option linter.unusedSimpArgs false
set_option linter.unusedVariables false
open Go.RowKit
attribute [local go_sem ↓] Go.wp_at_zero Go.wp_at_succ

def dig (k : Nat) : UInt8 := if k < 10 then UInt8.ofNat (48 + k) else UInt8.ofNat (87 + k)
def hexStr : ByteArray := ⟨#[48, 49, 50, 51, 52, 53, 54, 55, 56, 57, 97, 98, 99, 100, 101, 102]⟩
theorem digAt (k : Nat) (hk : k < 16) : hexStr[k]'hk = dig k := by
  have h : ∀ j : Fin 16, hexStr[j.val]'j.isLt = dig j.val := by decide
  exact h ⟨k, hk⟩
def hexTo (s : ByteArray) (k : Nat) : List UInt8 := (s.data.toList.take k).flatMap fun b => [dig (b.toNat / 16), dig (b.toNat % 16)]
theorem hexTo_succ (s : ByteArray) (k : Nat) (h : k < s.size) : hexTo s (k + 1) = hexTo s k ++ [dig (s[k].toNat / 16), dig (s[k].toNat % 16)] := by
  unfold hexTo; rw [take_snoc s k h]; simp [List.flatMap_append]
theorem hexTo_len (s : ByteArray) (k : Nat) : (hexTo s k).length ≤ 2 * k := by
  have gen : ∀ l : List UInt8, (l.flatMap fun b => [dig (b.toNat / 16), dig (b.toNat % 16)]).length = 2 * l.length := by
    intro l
    induction l with
    | nil => rfl
    | cons b l ih => simp only [List.flatMap_cons, List.length_append, ih, List.length_cons, List.length_nil]; omega
  unfold hexTo; rw [gen]; have := List.length_take_le k s.data.toList; omega
theorem own_convert0 {w : World} {base : Nat} {v : Value} {l : List UInt8} (h : w.ownsRow base 5 1 v l.length (l.map B8)) :
    (convert 27 9 v).run Tryd.prog w = .ok (.string ⟨l.toArray⟩) w := by
  by_cases hl : 0 < l.length
  · exact own_convert h hl
  · obtain rfl : l = [] := List.eq_nil_of_length_eq_zero (by omega)
    rcases h.2 with ⟨rfl, h0⟩ | ⟨g, cap, cur, rfl, _, hh, _, _, _, ht⟩
    · exact Lib.run_convert_nil_bytes w _ _ 5 0 Tryd.underlying27 Tryd.underlying5 Tryd.underlying9
    · exact run_convert_bytes_back w _ _ 5 _ cap [] Tryd.underlying27 Tryd.underlying5 Tryd.underlying9 fun j hj => absurd hj (by simp)
set_option maxRecDepth 100000 in
set_option maxHeartbeats 6400000 in
theorem implHex_any (s : ByteArray) (w : World) (hs : s.size ≤ 1048576) :
    Calls Tryd.prog 18 #[.string s] w fun e w' => e = .returned (.string ⟨(hexTo s s.size).toArray⟩) ∧ Below w.heap.size w w' := by
  obtain ⟨i0, hi, hz0, hz1, hz2⟩ := info_parts byte_info
  go_enter Tryd.func18, Tryd.ntmps18
  go_wp2
  go_loopw [3, 4] (fun v i wr => ∃ k : Nat, k ≤ s.size ∧ i = .int .i64 k ∧ Hid (wr.ownsRow w.heap.size 5 1 v (hexTo s k).length ((hexTo s k).map B8)) ∧ Below w.heap.size w wr) (fun _ i _ => s.size - (intOf i).toNat)
  case atStart => exact ⟨0, Nat.zero_le _, rfl, ownsRow_made w _ _ (Nat.le_refl _), (Below.refl _ _).alloc (Nat.le_refl _) _⟩
  case round =>
    obtain ⟨k, hk, rfl, hown, hB⟩ := hrel
    have hsz := hB.size
    have hlen := hexTo_len s k
    by_cases hlt : k < s.size
    · have hsuc := Lib.hid (hexTo_succ s k hlt)
      have hk0 : (0 : Int) ≤ (k : Int) := by omega
      have hk1 : (k : Int) < (s.size : Int) := by omega
      have hb := UInt8.toNat_lt s[k]
      generalize hbk : s[k].toNat = b at *
      obtain ⟨q, hq⟩ : ∃ q : Nat, q = b / 16 := ⟨_, rfl⟩
      obtain ⟨r, hr⟩ : ∃ r : Nat, r = b % 16 := ⟨_, rfl⟩
      rw [← hq, ← hr] at hsuc
      have e1 : (b : Int) / 16 = (q : Int) := by omega
      have e2 : (b : Int) % 16 = (r : Int) := by omega
      have e3 : (b : Int).tdiv 16 = (q : Int) := by rw [Int.tdiv_eq_ediv_of_nonneg (by omega)]; exact e1
      have e4 : (b : Int).tmod 16 = (r : Int) := by rw [Int.tmod_eq_emod_of_nonneg (by omega)]; exact e2
      have hq16 : q < 16 := by omega
      have hr16 : r < 16 := by omega
      have hq0 : (0 : Int) ≤ (q : Int) := by omega
      have hq1 : (q : Int) < 16 := by omega
      have hr0 : (0 : Int) ≤ (r : Int) := by omega
      have hr1 : (r : Int) < 16 := by omega
      have e5 : IntKind.u8.wrap (q : Int) = (q : Int) := by simp only [IntKind.wrap_u8]; omega
      have e6 : IntKind.u8.wrap (r : Int) = (r : Int) := by simp only [IntKind.wrap_u8]; omega
      have D1 := Lib.hid (digAt q hq16)
      have D2 := Lib.hid (digAt r hr16)
      clear hq hr
      go_wp2_with fail
      go_region_held3 (fun _ => True) (trivial) ((refine step_append_lies _ (by rfl) _ _ _ (by rfl) w.heap.size 5 i0 _ 1 1 Tryd.underlying27 hi hz0 hz1 hz2 rfl (by omega) u3 _ _ (by rfl) (by exact (hown.out.alloc _)) ⟨wr.heap.size, 0, none⟩ 2 2 [B8 (hexStr[q]'hq16), B8 (hexStr[r]'hr16)] (by rfl) (by rfl) (World.news_of_block (cs := #[B8 (hexStr[q]'hq16), B8 (hexStr[r]'hr16)]) (t := 5) (fr := (0, 0)) (heap_alloc_new wr _)) (by intro u hu; simp at hu; rcases hu with rfl | rfl <;> rfl) (by omega) (by unfold maxLen; omega) (by omega) (by simp; omega) (wr.heap.size + 1) (by simp) ?_; intro gg cap w1 hown1 hgrow hat hlt3))
      all_goals
        have hB1 : Below w.heap.size w w1 := ((hB.alloc hsz _).drew).grown hgrow (by simp; omega) (fun g hg => by
          rcases hown.out.2 with ⟨rfl, _⟩ | ⟨g', cap, cur, rfl, hge, _⟩
          · simp [Value.ownBlock] at hg
          · simp [Value.ownBlock] at hg; omega)
        have hown2 := Lib.hid (show w1.ownsRow w.heap.size 5 1 (.slice (some ⟨gg, 0, none⟩) ((hexTo s k).length + 2) cap) (hexTo s (k + 1)).length ((hexTo s (k + 1)).map B8) by
          rw [hsuc.out, ← D1.out, ← D2.out]; simpa using hown1)
        clear hown1 hgrow hat
        go_wp2
        exact ⟨⟨k + 1, by omega, by go_num, hown2, hB1⟩, by simp [intOf]; omega⟩
    · obtain rfl : k = s.size := by omega
      have hcv := own_convert0 hown.out
      go_wp2
      go_ret
      exact ⟨rfl, hB⟩

end Go.Proofs.YthganncfagddgaaDoor
