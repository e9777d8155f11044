/- FnAmts: what is added is taken away again; what fits may be taken; nothing goes below nought. No condition. -/
import Derived.Test.YthjchlefafbfoaaDrawNum
import Derived.Test.YthjchlefafbfoaaOpenB
namespace Go.Proofs.Ythjchlefafbfoaa
set_option linter.unusedSimpArgs false
set_option linter.unusedVariables false
open Go.Joins Go.ChangeShapes Go.WideShapes Go.ChangeAt Go.RowKit Go.Deep
open Go.ChangeMaps (open_string shut_string)
attribute [local go_sem ↓] Go.wp_at_zero Go.wp_at_succ

def fits3 (a b : B3) : Bool := fitsB a.1 a.2.1 a.2.2 b.1 b.2.1 b.2.2
def okB3 (a : B3) : Bool := amtB a.1 a.2.1 a.2.2
def add33 (a b : B3) : B3 := (a.1 + b.1, a.2.1 + b.2.1, a.2.2 + b.2.2)
def sub33 (a b : B3) : B3 := (a.1 - b.1, a.2.1 - b.2.1, a.2.2 - b.2.2)
def subR (a b : B3) : B3 × Bool := if fits3 b a then (sub33 a b, true) else (a, false)
def addR (a b : B3) : B3 × Bool := if okB3 a && okB3 b && okB3 (add33 a b) then (add33 a b, true) else (a, false)
theorem implAmtSub_r (a b : B3) (w : World) :
    Calls Try.prog 24 #[amt3 a, amt3 b] w fun e w' => e = .returned (.tuple #[amt3 (subR a b).1, .bool (subR a b).2]) ∧ Below w.heap.size w w' := by
  unfold subR
  cases h : fits3 b a
  · exact implAmtSub_no _ _ _ _ _ _ _ h
  · exact implAmtSub_yes _ _ _ _ _ _ _ h
theorem implAmtAdd_r (a b : B3) (w : World) :
    Calls Try.prog 26 #[amt3 a, amt3 b] w fun e w' => e = .returned (.tuple #[amt3 (addR a b).1, .bool (addR a b).2]) ∧ Below w.heap.size w w' := by
  unfold addR
  cases h : (okB3 a && okB3 b && okB3 (add33 a b))
  · exact implAmtAdd_no _ _ _ _ _ _ _ h
  · exact implAmtAdd_yes _ _ _ _ _ _ _ h
theorem okB3_true {a : B3} (h : okB3 a = true) : (0 ≤ a.1 ∧ a.1 ≤ 1000000) ∧ (0 ≤ a.2.1 ∧ a.2.1 ≤ 1000000) ∧ (0 ≤ a.2.2 ∧ a.2.2 ≤ 1000000) := amtB_true h
theorem okB3_mk {a : B3} (h : (0 ≤ a.1 ∧ a.1 ≤ 1000000) ∧ (0 ≤ a.2.1 ∧ a.2.1 ≤ 1000000) ∧ (0 ≤ a.2.2 ∧ a.2.2 ≤ 1000000)) : okB3 a = true := by
  simp [okB3, amtB, inB]; omega
theorem fits3_true {a b : B3} (h : fits3 a b = true) : okB3 a = true ∧ okB3 b = true ∧ a.1 ≤ b.1 ∧ a.2.1 ≤ b.2.1 ∧ a.2.2 ≤ b.2.2 := by
  simp only [fits3, fitsB, Bool.and_eq_true, decide_eq_true_eq] at h
  exact ⟨h.1.1.1.1, h.1.1.1.2, h.1.1.2, h.1.2, h.2⟩
theorem fits3_mk {a b : B3} (h1 : okB3 a = true) (h2 : okB3 b = true) (h : a.1 ≤ b.1 ∧ a.2.1 ≤ b.2.1 ∧ a.2.2 ≤ b.2.2) : fits3 a b = true := by
  simp only [fits3, fitsB, Bool.and_eq_true, decide_eq_true_eq]
  exact ⟨⟨⟨⟨h1, h2⟩, h.1⟩, h.2.1⟩, h.2.2⟩
theorem sub_add_self (a b : B3) : add33 (sub33 a b) b = a := by
  obtain ⟨p, q, r⟩ := a
  simp only [add33, sub33]
  ext <;> simp <;> omega
theorem add_sub_self (a b : B3) : sub33 (add33 a b) b = a := by
  obtain ⟨p, q, r⟩ := a
  simp only [add33, sub33]
  ext <;> simp <;> omega
/-- what is taken fits back -/
theorem sub_back {a b : B3} (h : fits3 b a = true) : okB3 (sub33 a b) = true ∧ addR (sub33 a b) b = (a, true) := by
  obtain ⟨h1, h2, h3⟩ := fits3_true h
  have b1 := okB3_true h1; have b2 := okB3_true h2
  have h4 : okB3 (sub33 a b) = true := okB3_mk (by simp only [sub33]; omega)
  refine ⟨h4, ?_⟩
  unfold addR
  rw [sub_add_self, h4, h1, h2]; rfl
/-- what is added may be taken -/
theorem add_back {a b : B3} (h : (okB3 a && okB3 b && okB3 (add33 a b)) = true) : okB3 (add33 a b) = true ∧ subR (add33 a b) b = (a, true) := by
  simp only [Bool.and_eq_true] at h
  have b1 := okB3_true h.1.1; have b2 := okB3_true h.1.2
  refine ⟨h.2, ?_⟩
  have hf : fits3 b (add33 a b) = true := fits3_mk h.1.2 h.2 (by simp only [add33]; omega)
  unfold subR
  rw [hf, add_sub_self]; rfl
theorem specAmtOk_r (a : B3) (w : World) : Calls Try.prog 13 #[amt3 a] w fun e w' => e = .returned (.bool (okB3 a)) ∧ Below w.heap.size w w' := specAmtOk_any _ _ _ _
set_option maxHeartbeats 400000 in
theorem big_any (A : Option Addr) (n c : Nat) (w : World) (hn : n ≤ 9223372036854775807) : Calls Try.prog 32 #[.slice A n c] w fun e w' => e = .returned (.bool (decide ((1048576 : Int) < (n : Int)))) ∧ w = w' := by
  go_enter Try.func32, Try.ntmps32
  go_wp2
  go_ret
  exact ⟨by first | rfl | simp, rfl⟩

theorem one_part {p z k : Int} (h : p = partOf (oneC z k 0) (oneC z k 1) (oneC z k 2) z) : ((p == k) = true) ∨ ((p == k) = false ∧ z < 0) ∨ ((p == k) = false ∧ 0 ≤ z ∧ 2 < z) := by
  by_cases h0 : z = 0
  · left; subst h0; rw [h]; simp [partOf, oneC]
  · by_cases h1 : z = 1
    · left; subst h1; rw [h]; simp [partOf, oneC]
    · by_cases h2 : z = 2
      · left; subst h2; rw [h]; simp [partOf, oneC]
      · cases hq : (p == k)
        · right
          by_cases h3 : z < 0
          · exact .inl ⟨rfl, h3⟩
          · exact .inr ⟨rfl, by omega, by omega⟩
        · exact .inl rfl
set_option maxHeartbeats 800000 in
theorem amts_big (A : Option Addr) (n c : Nat) (w : World) (hmx : n ≤ 9223372036854775807) (hbig : 1048576 < n) :
    Calls Try.prog 12 #[.slice A n c] w fun e w' => e = .returned (.bool true) ∧ Below w.heap.size w w' := by
  go_enter Try.func12, Try.ntmps12
  go_wp2_with fail
  refine (big_any A n c _ hmx).mono ?_
  rintro e _ ⟨rfl, rfl⟩
  have hbg : decide ((1048576 : Int) < (n : Int)) = true := decide_eq_true (by omega)
  rw [hbg]
  go_wp2
  go_ret
  exact ⟨rfl, Below.refl _ _⟩
set_option maxRecDepth 100000 in
set_option maxHeartbeats 25600000 in
theorem amts_main (A : Option Addr) (n c : Nat) (w : World) (hA : Bys w A n) (hn : n ≤ 1048576) :
    Calls Try.prog 12 #[.slice A n c] w fun e w' => e = .returned (.bool true) ∧ Below w.heap.size w w' := by
  have HA := Lib.hid hA
  clear hA
  go_enter Try.func12, Try.ntmps12
  have hB := Below.refl w.heap.size w
  have hs := hB.size
  go_wp2_with fail
  refine (big_any A n c _ (by omega)).mono ?_
  rintro e _ ⟨rfl, rfl⟩
  have hbg : decide ((1048576 : Int) < (n : Int)) = false := decide_eq_false (by omega)
  rw [hbg]
  clear hbg
  go_wp2_with fail
  refine (DrawAmtFits_any A n c _ HA.out hn).mono ?_
  rintro e w1 ⟨a, b, rfl, hb⟩
  have hz1 := hb.size
  have hB := Below.trans hB (hb.mono (by (try simp) <;> omega))
  have hs := hB.size
  clear hb
  cases hf : fits3 b a
  · cases hs2 : (okB3 a && okB3 b && okB3 (add33 a b))
    · skip
      have hfd : fits3 b a = false := hf
      have eA : addR a b = (a, false) := by unfold addR; rw [hs2]; rfl
      have eS : subR a b = (a, false) := by unfold subR; rw [hf]; rfl
      have C1 : Hid (∀ w', Calls Try.prog 26 #[amt3 a, amt3 b] w' fun e w'' => e = .returned (.tuple #[amt3 a, .bool false]) ∧ Below w'.heap.size w' w'') := Lib.hid fun w' => by have h := implAmtAdd_r a b w'; rw [eA] at h; exact h
      have C2 : Hid (∀ w', Calls Try.prog 24 #[amt3 a, amt3 b] w' fun e w'' => e = .returned (.tuple #[amt3 a, .bool false]) ∧ Below w'.heap.size w' w'') := Lib.hid fun w' => by have h := implAmtSub_r a b w'; rw [eS] at h; exact h
      have C3 : Hid (∀ w', Calls Try.prog 17 #[amt3 b, amt3 a] w' fun e w'' => e = .returned (.bool false) ∧ Below w'.heap.size w' w'') := Lib.hid fun w' => by have h := implAmtFits_any b.1 b.2.1 b.2.2 a.1 a.2.1 a.2.2 w'; rw [show fitsB b.1 b.2.1 b.2.2 a.1 a.2.1 a.2.2 = false from hf] at h; exact h
      clear eA eS hf hs2 hfd
      go_wp2_with fail
      refine (C1.out _).mono ?_
      rintro e w2 ⟨rfl, hb⟩
      have ba := keepblk hb (blk_alloc (heap_alloc_new w1 (.cells #[.int .i64 a.1, .int .i64 a.2.1, .int .i64 a.2.2] 26)))
      have bb := keepblk hb (heap_alloc_new (w1.alloc _) (.cells #[.int .i64 b.1, .int .i64 b.2.1, .int .i64 b.2.2] 26))
      simp only [World.size_alloc] at bb
      have hz2 := hb.size
      simp only [World.size_alloc] at hz2
      have hB := Below.trans ((hB.alloc (by (try simp) <;> omega) _).alloc (by (try simp) <;> omega) _) (hb.mono (by (try simp) <;> omega))
      have hs := hB.size
      clear hb
      have lba := lt_of_blk ba
      have lbb := lt_of_blk bb
      obtain ⟨kba, fba⟩ := blkcell ba
      obtain ⟨kbb, fbb⟩ := blkcell bb
      go_wp2_with fail
      refine (C2.out _).mono ?_
      rintro e w3 ⟨rfl, hb⟩
      have ba := keepblk hb (blk_alloc ba)
      have bb := keepblk hb (blk_alloc bb)
      have bs := keepblk hb (heap_alloc_new w2 (.cells #[.int .i64 a.1, .int .i64 a.2.1, .int .i64 a.2.2] 26))
      have hz3 := hb.size
      simp only [World.size_alloc] at hz3
      have hB := Below.trans (hB.alloc (by (try simp) <;> omega) _) (hb.mono (by (try simp) <;> omega))
      have hs := hB.size
      clear hb
      have lba := lt_of_blk ba
      have lbb := lt_of_blk bb
      have lbs := lt_of_blk bs
      clear kba fba
      clear kbb fbb
      obtain ⟨kba, fba⟩ := blkcell ba
      obtain ⟨kbb, fbb⟩ := blkcell bb
      go_wp2_with fail
      refine (C3.out _).mono ?_
      rintro e w4 ⟨rfl, hb⟩
      have ba := keepblk hb (blk_alloc ba)
      have bb := keepblk hb (blk_alloc bb)
      have bs := keepblk hb (blk_alloc bs)
      have bd := keepblk hb (heap_alloc_new w3 (.cells #[.int .i64 a.1, .int .i64 a.2.1, .int .i64 a.2.2] 26))
      have hz4 := hb.size
      simp only [World.size_alloc] at hz4
      have hB := Below.trans (hB.alloc (by (try simp) <;> omega) _) (hb.mono (by (try simp) <;> omega))
      have hs := hB.size
      clear hb
      have lba := lt_of_blk ba
      have lbb := lt_of_blk bb
      have lbs := lt_of_blk bs
      have lbd := lt_of_blk bd
      clear kba fba
      clear kbb fbb
      obtain ⟨kba, fba⟩ := blkcell ba
      obtain ⟨kbb, fbb⟩ := blkcell bb
      obtain ⟨kbs, fbs⟩ := blkcell bs
      obtain ⟨kbd, fbd⟩ := blkcell bd
      go_wp2_with fail
      refine (DrawAmtOne_any A n c _ (by exact HA.out.keep fun _ _ h => Below.keeps hB h) hn).mono ?_
      rintro e w5 ⟨z, k, rfl, hb⟩
      have ba := keepblk hb ba
      have bb := keepblk hb bb
      have bs := keepblk hb bs
      have bd := keepblk hb bd
      have hz5 := hb.size
      have hB := Below.trans hB (hb.mono (by (try simp) <;> omega))
      have hs := hB.size
      clear hb
      have lba := lt_of_blk ba
      have lbb := lt_of_blk bb
      have lbs := lt_of_blk bs
      have lbd := lt_of_blk bd
      clear kba fba
      clear kbb fbb
      clear kbs fbs
      clear kbd fbd
      go_wp2_with fail
      refine (implAmtOne_any z k _).mono ?_
      rintro e w6 ⟨rfl, hb⟩
      have ba := keepblk hb ba
      have bb := keepblk hb bb
      have bs := keepblk hb bs
      have bd := keepblk hb bd
      have hz6 := hb.size
      have hB := Below.trans hB (hb.mono (by (try simp) <;> omega))
      have hs := hB.size
      clear hb
      have lba := lt_of_blk ba
      have lbb := lt_of_blk bb
      have lbs := lt_of_blk bs
      have lbd := lt_of_blk bd
      go_wp2_with fail
      refine (implAmtPart_any _ _ _ z _).mono ?_
      rintro e w7 ⟨rfl, hb⟩
      have ba := keepblk hb ba
      have bb := keepblk hb bb
      have bs := keepblk hb bs
      have bd := keepblk hb bd
      have hz7 := hb.size
      have hB := Below.trans hB (hb.mono (by (try simp) <;> omega))
      have hs := hB.size
      clear hb
      have lba := lt_of_blk ba
      have lbb := lt_of_blk bb
      have lbs := lt_of_blk bs
      have lbd := lt_of_blk bd
      obtain ⟨p, hp⟩ : ∃ p, p = partOf (oneC z k 0) (oneC z k 1) (oneC z k 2) z := ⟨_, rfl⟩
      rw [← hp]
      have hz : ((p == k) = true) ∨ ((p == k) = false ∧ z < 0) ∨ ((p == k) = false ∧ 0 ≤ z ∧ 2 < z) := one_part hp
      clear hp
      rcases hz with hz | ⟨hz, hz2⟩ | ⟨hz, hz2, hz3⟩
      all_goals
        go_wp2
        go_ret
        exact ⟨rfl, hB⟩
    · skip
      have hfd : fits3 b a = false := hf
      have eA : addR a b = ((add33 a b), true) := by unfold addR; rw [hs2]; rfl
      have eS : subR a b = (a, false) := by unfold subR; rw [hf]; rfl
      have C1 : Hid (∀ w', Calls Try.prog 26 #[amt3 a, amt3 b] w' fun e w'' => e = .returned (.tuple #[amt3 (add33 a b), .bool true]) ∧ Below w'.heap.size w' w'') := Lib.hid fun w' => by have h := implAmtAdd_r a b w'; rw [eA] at h; exact h
      have C2 : Hid (∀ w', Calls Try.prog 24 #[amt3 a, amt3 b] w' fun e w'' => e = .returned (.tuple #[amt3 a, .bool false]) ∧ Below w'.heap.size w' w'') := Lib.hid fun w' => by have h := implAmtSub_r a b w'; rw [eS] at h; exact h
      have C3 : Hid (∀ w', Calls Try.prog 17 #[amt3 b, amt3 a] w' fun e w'' => e = .returned (.bool false) ∧ Below w'.heap.size w' w'') := Lib.hid fun w' => by have h := implAmtFits_any b.1 b.2.1 b.2.2 a.1 a.2.1 a.2.2 w'; rw [show fitsB b.1 b.2.1 b.2.2 a.1 a.2.1 a.2.2 = false from hf] at h; exact h
      obtain ⟨eo, eb⟩ := add_back hs2
      have C7 : Hid (∀ w', Calls Try.prog 13 #[amt3 (add33 a b)] w' fun e w'' => e = .returned (.bool true) ∧ Below w'.heap.size w' w'') := Lib.hid fun w' => by have h := specAmtOk_r (add33 a b) w'; rw [eo] at h; exact h
      have C6 : Hid (∀ w', Calls Try.prog 24 #[amt3 (add33 a b), amt3 b] w' fun e w'' => e = .returned (.tuple #[amt3 a, .bool true]) ∧ Below w'.heap.size w' w'') := Lib.hid fun w' => by have h := implAmtSub_r (add33 a b) b w'; rw [eb] at h; exact h
      clear eo eb
      clear eA eS hf hs2 hfd
      go_wp2_with fail
      refine (C1.out _).mono ?_
      rintro e w2 ⟨rfl, hb⟩
      have ba := keepblk hb (blk_alloc (heap_alloc_new w1 (.cells #[.int .i64 a.1, .int .i64 a.2.1, .int .i64 a.2.2] 26)))
      have bb := keepblk hb (heap_alloc_new (w1.alloc _) (.cells #[.int .i64 b.1, .int .i64 b.2.1, .int .i64 b.2.2] 26))
      simp only [World.size_alloc] at bb
      have hz2 := hb.size
      simp only [World.size_alloc] at hz2
      have hB := Below.trans ((hB.alloc (by (try simp) <;> omega) _).alloc (by (try simp) <;> omega) _) (hb.mono (by (try simp) <;> omega))
      have hs := hB.size
      clear hb
      have lba := lt_of_blk ba
      have lbb := lt_of_blk bb
      obtain ⟨kba, fba⟩ := blkcell ba
      obtain ⟨kbb, fbb⟩ := blkcell bb
      go_wp2_with fail
      refine (C2.out _).mono ?_
      rintro e w3 ⟨rfl, hb⟩
      have ba := keepblk hb (blk_alloc ba)
      have bb := keepblk hb (blk_alloc bb)
      have bs := keepblk hb (heap_alloc_new w2 (.cells #[.int .i64 (add33 a b).1, .int .i64 (add33 a b).2.1, .int .i64 (add33 a b).2.2] 26))
      have hz3 := hb.size
      simp only [World.size_alloc] at hz3
      have hB := Below.trans (hB.alloc (by (try simp) <;> omega) _) (hb.mono (by (try simp) <;> omega))
      have hs := hB.size
      clear hb
      have lba := lt_of_blk ba
      have lbb := lt_of_blk bb
      have lbs := lt_of_blk bs
      clear kba fba
      clear kbb fbb
      obtain ⟨kba, fba⟩ := blkcell ba
      obtain ⟨kbb, fbb⟩ := blkcell bb
      go_wp2_with fail
      refine (C3.out _).mono ?_
      rintro e w4 ⟨rfl, hb⟩
      have ba := keepblk hb (blk_alloc ba)
      have bb := keepblk hb (blk_alloc bb)
      have bs := keepblk hb (blk_alloc bs)
      have bd := keepblk hb (heap_alloc_new w3 (.cells #[.int .i64 a.1, .int .i64 a.2.1, .int .i64 a.2.2] 26))
      have hz4 := hb.size
      simp only [World.size_alloc] at hz4
      have hB := Below.trans (hB.alloc (by (try simp) <;> omega) _) (hb.mono (by (try simp) <;> omega))
      have hs := hB.size
      clear hb
      have lba := lt_of_blk ba
      have lbb := lt_of_blk bb
      have lbs := lt_of_blk bs
      have lbd := lt_of_blk bd
      clear kba fba
      clear kbb fbb
      obtain ⟨kba, fba⟩ := blkcell ba
      obtain ⟨kbb, fbb⟩ := blkcell bb
      obtain ⟨kbs, fbs⟩ := blkcell bs
      obtain ⟨kbd, fbd⟩ := blkcell bd
      go_wp2_with fail
      refine (C6.out _).mono ?_
      rintro e w5 ⟨rfl, hb⟩
      have ba := keepblk hb ba
      have bb := keepblk hb bb
      have bs := keepblk hb bs
      have bd := keepblk hb bd
      have hz5 := hb.size
      have hB := Below.trans hB (hb.mono (by (try simp) <;> omega))
      have hs := hB.size
      clear hb
      have lba := lt_of_blk ba
      have lbb := lt_of_blk bb
      have lbs := lt_of_blk bs
      have lbd := lt_of_blk bd
      clear kba fba
      clear kbb fbb
      clear kbs fbs
      clear kbd fbd
      obtain ⟨kba, fba⟩ := blkcell ba
      obtain ⟨kbb, fbb⟩ := blkcell bb
      obtain ⟨kbs, fbs⟩ := blkcell bs
      obtain ⟨kbd, fbd⟩ := blkcell bd
      go_wp2_with fail
      refine (C7.out _).mono ?_
      rintro e w6 ⟨rfl, hb⟩
      have ba := keepblk hb (blk_alloc ba)
      have bb := keepblk hb (blk_alloc bb)
      have bs := keepblk hb (blk_alloc bs)
      have bd := keepblk hb (blk_alloc bd)
      have bf := keepblk hb (heap_alloc_new w5 (.cells #[.int .i64 a.1, .int .i64 a.2.1, .int .i64 a.2.2] 26))
      have hz6 := hb.size
      simp only [World.size_alloc] at hz6
      have hB := Below.trans (hB.alloc (by (try simp) <;> omega) _) (hb.mono (by (try simp) <;> omega))
      have hs := hB.size
      clear hb
      have lba := lt_of_blk ba
      have lbb := lt_of_blk bb
      have lbs := lt_of_blk bs
      have lbd := lt_of_blk bd
      have lbf := lt_of_blk bf
      clear kba fba
      clear kbb fbb
      clear kbs fbs
      clear kbd fbd
      obtain ⟨kba, fba⟩ := blkcell ba
      obtain ⟨kbb, fbb⟩ := blkcell bb
      obtain ⟨kbs, fbs⟩ := blkcell bs
      obtain ⟨kbd, fbd⟩ := blkcell bd
      obtain ⟨kbf, fbf⟩ := blkcell bf
      go_wp2_with fail
      refine (DrawAmtOne_any A n c _ (by exact HA.out.keep fun _ _ h => Below.keeps hB h) hn).mono ?_
      rintro e w7 ⟨z, k, rfl, hb⟩
      have ba := keepblk hb ba
      have bb := keepblk hb bb
      have bs := keepblk hb bs
      have bd := keepblk hb bd
      have bf := keepblk hb bf
      have hz7 := hb.size
      have hB := Below.trans hB (hb.mono (by (try simp) <;> omega))
      have hs := hB.size
      clear hb
      have lba := lt_of_blk ba
      have lbb := lt_of_blk bb
      have lbs := lt_of_blk bs
      have lbd := lt_of_blk bd
      have lbf := lt_of_blk bf
      clear kba fba
      clear kbb fbb
      clear kbs fbs
      clear kbd fbd
      clear kbf fbf
      go_wp2_with fail
      refine (implAmtOne_any z k _).mono ?_
      rintro e w8 ⟨rfl, hb⟩
      have ba := keepblk hb ba
      have bb := keepblk hb bb
      have bs := keepblk hb bs
      have bd := keepblk hb bd
      have bf := keepblk hb bf
      have hz8 := hb.size
      have hB := Below.trans hB (hb.mono (by (try simp) <;> omega))
      have hs := hB.size
      clear hb
      have lba := lt_of_blk ba
      have lbb := lt_of_blk bb
      have lbs := lt_of_blk bs
      have lbd := lt_of_blk bd
      have lbf := lt_of_blk bf
      go_wp2_with fail
      refine (implAmtPart_any _ _ _ z _).mono ?_
      rintro e w9 ⟨rfl, hb⟩
      have ba := keepblk hb ba
      have bb := keepblk hb bb
      have bs := keepblk hb bs
      have bd := keepblk hb bd
      have bf := keepblk hb bf
      have hz9 := hb.size
      have hB := Below.trans hB (hb.mono (by (try simp) <;> omega))
      have hs := hB.size
      clear hb
      have lba := lt_of_blk ba
      have lbb := lt_of_blk bb
      have lbs := lt_of_blk bs
      have lbd := lt_of_blk bd
      have lbf := lt_of_blk bf
      obtain ⟨p, hp⟩ : ∃ p, p = partOf (oneC z k 0) (oneC z k 1) (oneC z k 2) z := ⟨_, rfl⟩
      rw [← hp]
      have hz : ((p == k) = true) ∨ ((p == k) = false ∧ z < 0) ∨ ((p == k) = false ∧ 0 ≤ z ∧ 2 < z) := one_part hp
      clear hp
      rcases hz with hz | ⟨hz, hz2⟩ | ⟨hz, hz2, hz3⟩
      all_goals
        go_wp2
        go_ret
        exact ⟨rfl, hB⟩
  · cases hs2 : (okB3 a && okB3 b && okB3 (add33 a b))
    · skip
      have hfd : fits3 b a = true := hf
      have eA : addR a b = (a, false) := by unfold addR; rw [hs2]; rfl
      have eS : subR a b = ((sub33 a b), true) := by unfold subR; rw [hf]; rfl
      have C1 : Hid (∀ w', Calls Try.prog 26 #[amt3 a, amt3 b] w' fun e w'' => e = .returned (.tuple #[amt3 a, .bool false]) ∧ Below w'.heap.size w' w'') := Lib.hid fun w' => by have h := implAmtAdd_r a b w'; rw [eA] at h; exact h
      have C2 : Hid (∀ w', Calls Try.prog 24 #[amt3 a, amt3 b] w' fun e w'' => e = .returned (.tuple #[amt3 (sub33 a b), .bool true]) ∧ Below w'.heap.size w' w'') := Lib.hid fun w' => by have h := implAmtSub_r a b w'; rw [eS] at h; exact h
      have C3 : Hid (∀ w', Calls Try.prog 17 #[amt3 b, amt3 a] w' fun e w'' => e = .returned (.bool true) ∧ Below w'.heap.size w' w'') := Lib.hid fun w' => by have h := implAmtFits_any b.1 b.2.1 b.2.2 a.1 a.2.1 a.2.2 w'; rw [show fitsB b.1 b.2.1 b.2.2 a.1 a.2.1 a.2.2 = true from hf] at h; exact h
      obtain ⟨eo, eb⟩ := sub_back hf
      have C4 : Hid (∀ w', Calls Try.prog 13 #[amt3 (sub33 a b)] w' fun e w'' => e = .returned (.bool true) ∧ Below w'.heap.size w' w'') := Lib.hid fun w' => by have h := specAmtOk_r (sub33 a b) w'; rw [eo] at h; exact h
      have C5 : Hid (∀ w', Calls Try.prog 26 #[amt3 (sub33 a b), amt3 b] w' fun e w'' => e = .returned (.tuple #[amt3 a, .bool true]) ∧ Below w'.heap.size w' w'') := Lib.hid fun w' => by have h := implAmtAdd_r (sub33 a b) b w'; rw [eb] at h; exact h
      clear eo eb
      clear eA eS hf hs2 hfd
      go_wp2_with fail
      refine (C1.out _).mono ?_
      rintro e w2 ⟨rfl, hb⟩
      have ba := keepblk hb (blk_alloc (heap_alloc_new w1 (.cells #[.int .i64 a.1, .int .i64 a.2.1, .int .i64 a.2.2] 26)))
      have bb := keepblk hb (heap_alloc_new (w1.alloc _) (.cells #[.int .i64 b.1, .int .i64 b.2.1, .int .i64 b.2.2] 26))
      simp only [World.size_alloc] at bb
      have hz2 := hb.size
      simp only [World.size_alloc] at hz2
      have hB := Below.trans ((hB.alloc (by (try simp) <;> omega) _).alloc (by (try simp) <;> omega) _) (hb.mono (by (try simp) <;> omega))
      have hs := hB.size
      clear hb
      have lba := lt_of_blk ba
      have lbb := lt_of_blk bb
      obtain ⟨kba, fba⟩ := blkcell ba
      obtain ⟨kbb, fbb⟩ := blkcell bb
      go_wp2_with fail
      refine (C2.out _).mono ?_
      rintro e w3 ⟨rfl, hb⟩
      have ba := keepblk hb (blk_alloc ba)
      have bb := keepblk hb (blk_alloc bb)
      have bs := keepblk hb (heap_alloc_new w2 (.cells #[.int .i64 a.1, .int .i64 a.2.1, .int .i64 a.2.2] 26))
      have hz3 := hb.size
      simp only [World.size_alloc] at hz3
      have hB := Below.trans (hB.alloc (by (try simp) <;> omega) _) (hb.mono (by (try simp) <;> omega))
      have hs := hB.size
      clear hb
      have lba := lt_of_blk ba
      have lbb := lt_of_blk bb
      have lbs := lt_of_blk bs
      clear kba fba
      clear kbb fbb
      obtain ⟨kba, fba⟩ := blkcell ba
      obtain ⟨kbb, fbb⟩ := blkcell bb
      go_wp2_with fail
      refine (C3.out _).mono ?_
      rintro e w4 ⟨rfl, hb⟩
      have ba := keepblk hb (blk_alloc ba)
      have bb := keepblk hb (blk_alloc bb)
      have bs := keepblk hb (blk_alloc bs)
      have bd := keepblk hb (heap_alloc_new w3 (.cells #[.int .i64 (sub33 a b).1, .int .i64 (sub33 a b).2.1, .int .i64 (sub33 a b).2.2] 26))
      have hz4 := hb.size
      simp only [World.size_alloc] at hz4
      have hB := Below.trans (hB.alloc (by (try simp) <;> omega) _) (hb.mono (by (try simp) <;> omega))
      have hs := hB.size
      clear hb
      have lba := lt_of_blk ba
      have lbb := lt_of_blk bb
      have lbs := lt_of_blk bs
      have lbd := lt_of_blk bd
      clear kba fba
      clear kbb fbb
      obtain ⟨kba, fba⟩ := blkcell ba
      obtain ⟨kbb, fbb⟩ := blkcell bb
      obtain ⟨kbs, fbs⟩ := blkcell bs
      obtain ⟨kbd, fbd⟩ := blkcell bd
      go_wp2_with fail
      refine (C4.out _).mono ?_
      rintro e w5 ⟨rfl, hb⟩
      have ba := keepblk hb ba
      have bb := keepblk hb bb
      have bs := keepblk hb bs
      have bd := keepblk hb bd
      have hz5 := hb.size
      have hB := Below.trans hB (hb.mono (by (try simp) <;> omega))
      have hs := hB.size
      clear hb
      have lba := lt_of_blk ba
      have lbb := lt_of_blk bb
      have lbs := lt_of_blk bs
      have lbd := lt_of_blk bd
      clear kba fba
      clear kbb fbb
      clear kbs fbs
      clear kbd fbd
      obtain ⟨kba, fba⟩ := blkcell ba
      obtain ⟨kbb, fbb⟩ := blkcell bb
      obtain ⟨kbs, fbs⟩ := blkcell bs
      obtain ⟨kbd, fbd⟩ := blkcell bd
      go_wp2_with fail
      refine (C5.out _).mono ?_
      rintro e w6 ⟨rfl, hb⟩
      have ba := keepblk hb ba
      have bb := keepblk hb bb
      have bs := keepblk hb bs
      have bd := keepblk hb bd
      have hz6 := hb.size
      have hB := Below.trans hB (hb.mono (by (try simp) <;> omega))
      have hs := hB.size
      clear hb
      have lba := lt_of_blk ba
      have lbb := lt_of_blk bb
      have lbs := lt_of_blk bs
      have lbd := lt_of_blk bd
      clear kba fba
      clear kbb fbb
      clear kbs fbs
      clear kbd fbd
      obtain ⟨kba, fba⟩ := blkcell ba
      obtain ⟨kbb, fbb⟩ := blkcell bb
      obtain ⟨kbs, fbs⟩ := blkcell bs
      obtain ⟨kbd, fbd⟩ := blkcell bd
      go_wp2_with fail
      refine (DrawAmtOne_any A n c _ (by exact HA.out.keep fun _ _ h => cell_alloc_ (Below.keeps hB h)) hn).mono ?_
      rintro e w7 ⟨z, k, rfl, hb⟩
      have ba := keepblk hb (blk_alloc ba)
      have bb := keepblk hb (blk_alloc bb)
      have bs := keepblk hb (blk_alloc bs)
      have bd := keepblk hb (blk_alloc bd)
      have be := keepblk hb (heap_alloc_new w6 (.cells #[.int .i64 a.1, .int .i64 a.2.1, .int .i64 a.2.2] 26))
      have hz7 := hb.size
      simp only [World.size_alloc] at hz7
      have hB := Below.trans (hB.alloc (by (try simp) <;> omega) _) (hb.mono (by (try simp) <;> omega))
      have hs := hB.size
      clear hb
      have lba := lt_of_blk ba
      have lbb := lt_of_blk bb
      have lbs := lt_of_blk bs
      have lbd := lt_of_blk bd
      have lbe := lt_of_blk be
      clear kba fba
      clear kbb fbb
      clear kbs fbs
      clear kbd fbd
      go_wp2_with fail
      refine (implAmtOne_any z k _).mono ?_
      rintro e w8 ⟨rfl, hb⟩
      have ba := keepblk hb ba
      have bb := keepblk hb bb
      have bs := keepblk hb bs
      have bd := keepblk hb bd
      have be := keepblk hb be
      have hz8 := hb.size
      have hB := Below.trans hB (hb.mono (by (try simp) <;> omega))
      have hs := hB.size
      clear hb
      have lba := lt_of_blk ba
      have lbb := lt_of_blk bb
      have lbs := lt_of_blk bs
      have lbd := lt_of_blk bd
      have lbe := lt_of_blk be
      go_wp2_with fail
      refine (implAmtPart_any _ _ _ z _).mono ?_
      rintro e w9 ⟨rfl, hb⟩
      have ba := keepblk hb ba
      have bb := keepblk hb bb
      have bs := keepblk hb bs
      have bd := keepblk hb bd
      have be := keepblk hb be
      have hz9 := hb.size
      have hB := Below.trans hB (hb.mono (by (try simp) <;> omega))
      have hs := hB.size
      clear hb
      have lba := lt_of_blk ba
      have lbb := lt_of_blk bb
      have lbs := lt_of_blk bs
      have lbd := lt_of_blk bd
      have lbe := lt_of_blk be
      obtain ⟨p, hp⟩ : ∃ p, p = partOf (oneC z k 0) (oneC z k 1) (oneC z k 2) z := ⟨_, rfl⟩
      rw [← hp]
      have hz : ((p == k) = true) ∨ ((p == k) = false ∧ z < 0) ∨ ((p == k) = false ∧ 0 ≤ z ∧ 2 < z) := one_part hp
      clear hp
      rcases hz with hz | ⟨hz, hz2⟩ | ⟨hz, hz2, hz3⟩
      all_goals
        go_wp2
        go_ret
        exact ⟨rfl, hB⟩
    · skip
      have hfd : fits3 b a = true := hf
      have eA : addR a b = ((add33 a b), true) := by unfold addR; rw [hs2]; rfl
      have eS : subR a b = ((sub33 a b), true) := by unfold subR; rw [hf]; rfl
      have C1 : Hid (∀ w', Calls Try.prog 26 #[amt3 a, amt3 b] w' fun e w'' => e = .returned (.tuple #[amt3 (add33 a b), .bool true]) ∧ Below w'.heap.size w' w'') := Lib.hid fun w' => by have h := implAmtAdd_r a b w'; rw [eA] at h; exact h
      have C2 : Hid (∀ w', Calls Try.prog 24 #[amt3 a, amt3 b] w' fun e w'' => e = .returned (.tuple #[amt3 (sub33 a b), .bool true]) ∧ Below w'.heap.size w' w'') := Lib.hid fun w' => by have h := implAmtSub_r a b w'; rw [eS] at h; exact h
      have C3 : Hid (∀ w', Calls Try.prog 17 #[amt3 b, amt3 a] w' fun e w'' => e = .returned (.bool true) ∧ Below w'.heap.size w' w'') := Lib.hid fun w' => by have h := implAmtFits_any b.1 b.2.1 b.2.2 a.1 a.2.1 a.2.2 w'; rw [show fitsB b.1 b.2.1 b.2.2 a.1 a.2.1 a.2.2 = true from hf] at h; exact h
      obtain ⟨eo, eb⟩ := sub_back hf
      have C4 : Hid (∀ w', Calls Try.prog 13 #[amt3 (sub33 a b)] w' fun e w'' => e = .returned (.bool true) ∧ Below w'.heap.size w' w'') := Lib.hid fun w' => by have h := specAmtOk_r (sub33 a b) w'; rw [eo] at h; exact h
      have C5 : Hid (∀ w', Calls Try.prog 26 #[amt3 (sub33 a b), amt3 b] w' fun e w'' => e = .returned (.tuple #[amt3 a, .bool true]) ∧ Below w'.heap.size w' w'') := Lib.hid fun w' => by have h := implAmtAdd_r (sub33 a b) b w'; rw [eb] at h; exact h
      clear eo eb
      obtain ⟨eo, eb⟩ := add_back hs2
      have C7 : Hid (∀ w', Calls Try.prog 13 #[amt3 (add33 a b)] w' fun e w'' => e = .returned (.bool true) ∧ Below w'.heap.size w' w'') := Lib.hid fun w' => by have h := specAmtOk_r (add33 a b) w'; rw [eo] at h; exact h
      have C6 : Hid (∀ w', Calls Try.prog 24 #[amt3 (add33 a b), amt3 b] w' fun e w'' => e = .returned (.tuple #[amt3 a, .bool true]) ∧ Below w'.heap.size w' w'') := Lib.hid fun w' => by have h := implAmtSub_r (add33 a b) b w'; rw [eb] at h; exact h
      clear eo eb
      clear eA eS hf hs2 hfd
      go_wp2_with fail
      refine (C1.out _).mono ?_
      rintro e w2 ⟨rfl, hb⟩
      have ba := keepblk hb (blk_alloc (heap_alloc_new w1 (.cells #[.int .i64 a.1, .int .i64 a.2.1, .int .i64 a.2.2] 26)))
      have bb := keepblk hb (heap_alloc_new (w1.alloc _) (.cells #[.int .i64 b.1, .int .i64 b.2.1, .int .i64 b.2.2] 26))
      simp only [World.size_alloc] at bb
      have hz2 := hb.size
      simp only [World.size_alloc] at hz2
      have hB := Below.trans ((hB.alloc (by (try simp) <;> omega) _).alloc (by (try simp) <;> omega) _) (hb.mono (by (try simp) <;> omega))
      have hs := hB.size
      clear hb
      have lba := lt_of_blk ba
      have lbb := lt_of_blk bb
      obtain ⟨kba, fba⟩ := blkcell ba
      obtain ⟨kbb, fbb⟩ := blkcell bb
      go_wp2_with fail
      refine (C2.out _).mono ?_
      rintro e w3 ⟨rfl, hb⟩
      have ba := keepblk hb (blk_alloc ba)
      have bb := keepblk hb (blk_alloc bb)
      have bs := keepblk hb (heap_alloc_new w2 (.cells #[.int .i64 (add33 a b).1, .int .i64 (add33 a b).2.1, .int .i64 (add33 a b).2.2] 26))
      have hz3 := hb.size
      simp only [World.size_alloc] at hz3
      have hB := Below.trans (hB.alloc (by (try simp) <;> omega) _) (hb.mono (by (try simp) <;> omega))
      have hs := hB.size
      clear hb
      have lba := lt_of_blk ba
      have lbb := lt_of_blk bb
      have lbs := lt_of_blk bs
      clear kba fba
      clear kbb fbb
      obtain ⟨kba, fba⟩ := blkcell ba
      obtain ⟨kbb, fbb⟩ := blkcell bb
      go_wp2_with fail
      refine (C3.out _).mono ?_
      rintro e w4 ⟨rfl, hb⟩
      have ba := keepblk hb (blk_alloc ba)
      have bb := keepblk hb (blk_alloc bb)
      have bs := keepblk hb (blk_alloc bs)
      have bd := keepblk hb (heap_alloc_new w3 (.cells #[.int .i64 (sub33 a b).1, .int .i64 (sub33 a b).2.1, .int .i64 (sub33 a b).2.2] 26))
      have hz4 := hb.size
      simp only [World.size_alloc] at hz4
      have hB := Below.trans (hB.alloc (by (try simp) <;> omega) _) (hb.mono (by (try simp) <;> omega))
      have hs := hB.size
      clear hb
      have lba := lt_of_blk ba
      have lbb := lt_of_blk bb
      have lbs := lt_of_blk bs
      have lbd := lt_of_blk bd
      clear kba fba
      clear kbb fbb
      obtain ⟨kba, fba⟩ := blkcell ba
      obtain ⟨kbb, fbb⟩ := blkcell bb
      obtain ⟨kbs, fbs⟩ := blkcell bs
      obtain ⟨kbd, fbd⟩ := blkcell bd
      go_wp2_with fail
      refine (C4.out _).mono ?_
      rintro e w5 ⟨rfl, hb⟩
      have ba := keepblk hb ba
      have bb := keepblk hb bb
      have bs := keepblk hb bs
      have bd := keepblk hb bd
      have hz5 := hb.size
      have hB := Below.trans hB (hb.mono (by (try simp) <;> omega))
      have hs := hB.size
      clear hb
      have lba := lt_of_blk ba
      have lbb := lt_of_blk bb
      have lbs := lt_of_blk bs
      have lbd := lt_of_blk bd
      clear kba fba
      clear kbb fbb
      clear kbs fbs
      clear kbd fbd
      obtain ⟨kba, fba⟩ := blkcell ba
      obtain ⟨kbb, fbb⟩ := blkcell bb
      obtain ⟨kbs, fbs⟩ := blkcell bs
      obtain ⟨kbd, fbd⟩ := blkcell bd
      go_wp2_with fail
      refine (C5.out _).mono ?_
      rintro e w6 ⟨rfl, hb⟩
      have ba := keepblk hb ba
      have bb := keepblk hb bb
      have bs := keepblk hb bs
      have bd := keepblk hb bd
      have hz6 := hb.size
      have hB := Below.trans hB (hb.mono (by (try simp) <;> omega))
      have hs := hB.size
      clear hb
      have lba := lt_of_blk ba
      have lbb := lt_of_blk bb
      have lbs := lt_of_blk bs
      have lbd := lt_of_blk bd
      clear kba fba
      clear kbb fbb
      clear kbs fbs
      clear kbd fbd
      obtain ⟨kba, fba⟩ := blkcell ba
      obtain ⟨kbb, fbb⟩ := blkcell bb
      obtain ⟨kbs, fbs⟩ := blkcell bs
      obtain ⟨kbd, fbd⟩ := blkcell bd
      go_wp2_with fail
      refine (C6.out _).mono ?_
      rintro e w7 ⟨rfl, hb⟩
      have ba := keepblk hb (blk_alloc ba)
      have bb := keepblk hb (blk_alloc bb)
      have bs := keepblk hb (blk_alloc bs)
      have bd := keepblk hb (blk_alloc bd)
      have be := keepblk hb (heap_alloc_new w6 (.cells #[.int .i64 a.1, .int .i64 a.2.1, .int .i64 a.2.2] 26))
      have hz7 := hb.size
      simp only [World.size_alloc] at hz7
      have hB := Below.trans (hB.alloc (by (try simp) <;> omega) _) (hb.mono (by (try simp) <;> omega))
      have hs := hB.size
      clear hb
      have lba := lt_of_blk ba
      have lbb := lt_of_blk bb
      have lbs := lt_of_blk bs
      have lbd := lt_of_blk bd
      have lbe := lt_of_blk be
      clear kba fba
      clear kbb fbb
      clear kbs fbs
      clear kbd fbd
      obtain ⟨kba, fba⟩ := blkcell ba
      obtain ⟨kbb, fbb⟩ := blkcell bb
      obtain ⟨kbs, fbs⟩ := blkcell bs
      obtain ⟨kbd, fbd⟩ := blkcell bd
      obtain ⟨kbe, fbe⟩ := blkcell be
      go_wp2_with fail
      refine (C7.out _).mono ?_
      rintro e w8 ⟨rfl, hb⟩
      have ba := keepblk hb (blk_alloc ba)
      have bb := keepblk hb (blk_alloc bb)
      have bs := keepblk hb (blk_alloc bs)
      have bd := keepblk hb (blk_alloc bd)
      have be := keepblk hb (blk_alloc be)
      have bf := keepblk hb (heap_alloc_new w7 (.cells #[.int .i64 a.1, .int .i64 a.2.1, .int .i64 a.2.2] 26))
      have hz8 := hb.size
      simp only [World.size_alloc] at hz8
      have hB := Below.trans (hB.alloc (by (try simp) <;> omega) _) (hb.mono (by (try simp) <;> omega))
      have hs := hB.size
      clear hb
      have lba := lt_of_blk ba
      have lbb := lt_of_blk bb
      have lbs := lt_of_blk bs
      have lbd := lt_of_blk bd
      have lbe := lt_of_blk be
      have lbf := lt_of_blk bf
      clear kba fba
      clear kbb fbb
      clear kbs fbs
      clear kbd fbd
      clear kbe fbe
      obtain ⟨kba, fba⟩ := blkcell ba
      obtain ⟨kbb, fbb⟩ := blkcell bb
      obtain ⟨kbs, fbs⟩ := blkcell bs
      obtain ⟨kbd, fbd⟩ := blkcell bd
      obtain ⟨kbe, fbe⟩ := blkcell be
      obtain ⟨kbf, fbf⟩ := blkcell bf
      go_wp2_with fail
      refine (DrawAmtOne_any A n c _ (by exact HA.out.keep fun _ _ h => Below.keeps hB h) hn).mono ?_
      rintro e w9 ⟨z, k, rfl, hb⟩
      have ba := keepblk hb ba
      have bb := keepblk hb bb
      have bs := keepblk hb bs
      have bd := keepblk hb bd
      have be := keepblk hb be
      have bf := keepblk hb bf
      have hz9 := hb.size
      have hB := Below.trans hB (hb.mono (by (try simp) <;> omega))
      have hs := hB.size
      clear hb
      have lba := lt_of_blk ba
      have lbb := lt_of_blk bb
      have lbs := lt_of_blk bs
      have lbd := lt_of_blk bd
      have lbe := lt_of_blk be
      have lbf := lt_of_blk bf
      clear kba fba
      clear kbb fbb
      clear kbs fbs
      clear kbd fbd
      clear kbe fbe
      clear kbf fbf
      go_wp2_with fail
      refine (implAmtOne_any z k _).mono ?_
      rintro e w10 ⟨rfl, hb⟩
      have ba := keepblk hb ba
      have bb := keepblk hb bb
      have bs := keepblk hb bs
      have bd := keepblk hb bd
      have be := keepblk hb be
      have bf := keepblk hb bf
      have hz10 := hb.size
      have hB := Below.trans hB (hb.mono (by (try simp) <;> omega))
      have hs := hB.size
      clear hb
      have lba := lt_of_blk ba
      have lbb := lt_of_blk bb
      have lbs := lt_of_blk bs
      have lbd := lt_of_blk bd
      have lbe := lt_of_blk be
      have lbf := lt_of_blk bf
      go_wp2_with fail
      refine (implAmtPart_any _ _ _ z _).mono ?_
      rintro e w11 ⟨rfl, hb⟩
      have ba := keepblk hb ba
      have bb := keepblk hb bb
      have bs := keepblk hb bs
      have bd := keepblk hb bd
      have be := keepblk hb be
      have bf := keepblk hb bf
      have hz11 := hb.size
      have hB := Below.trans hB (hb.mono (by (try simp) <;> omega))
      have hs := hB.size
      clear hb
      have lba := lt_of_blk ba
      have lbb := lt_of_blk bb
      have lbs := lt_of_blk bs
      have lbd := lt_of_blk bd
      have lbe := lt_of_blk be
      have lbf := lt_of_blk bf
      obtain ⟨p, hp⟩ : ∃ p, p = partOf (oneC z k 0) (oneC z k 1) (oneC z k 2) z := ⟨_, rfl⟩
      rw [← hp]
      have hz : ((p == k) = true) ∨ ((p == k) = false ∧ z < 0) ∨ ((p == k) = false ∧ 0 ≤ z ∧ 2 < z) := one_part hp
      clear hp
      rcases hz with hz | ⟨hz, hz2⟩ | ⟨hz, hz2, hz3⟩
      all_goals
        go_wp2
        go_ret
        exact ⟨rfl, hB⟩
theorem amts_walk (A : Option Addr) (n c : Nat) (w : World) (hA : Bys w A n) (hmx : n ≤ 9223372036854775807) :
    Calls Try.prog 12 #[.slice A n c] w fun e w' => e = .returned (.bool true) ∧ Below w.heap.size w w' := by
  by_cases hb : 1048576 < n
  · exact amts_big A n c w hmx hb
  · exact amts_main A n c w hA (by omega)
set_option linter.unusedVariables false in
set_option maxRecDepth 100000 in
theorem FnAmts_lifted (os : Os) (started : os.Started) (H : Type) (enc : TypeId × Value → H) :
    ReturnsInHanded {} Try.checked os 12 .any (Rows.fnAmtsSpec.pre6 enc Try.prog Try.f12 Rows.fnAmtsRow.domain false) (Rows.fnAmtsSpec.post enc Try.prog Try.f12 false true false false) := by
  refine returnsInHanded_of_change (C := Try.checked) own started (by kernel_rfl) Try.func12
    (ChangeSpec.witness6 (enc := enc) (C := Try.checked) false ⟨#[], #[.slice none 0 0], []⟩ 8 (by kernel_rfl) (by kernel_rfl) (by kernel_rfl) (by kernel_rfl)) ?_
  intro W base args ds gs before hval0 hW hcnd _
  have hval : ∀ (j : Nat) t v, Try.f12.params[j]? = some t → args[j]? = some v → Value.okWide Try.prog W .any base t v := hval0
  have hW' := hW
  obtain ⟨p, q, hA0, hV, rfl, hfz, hnd⟩ := hW
  have hA : DataW.TrodAll enc Try.prog W 0 (fun _ => true) true Try.f12.params.toList args.toList ds p := hA0
  rw [Try.params12] at hA hval
  obtain ⟨v0, vs0, d0, ds0, p0, q0, hargs, rfl, rfl, h0, r0⟩ := trodAll_cons hA
  obtain ⟨rfl, rfl, rfl⟩ := trodAll_nil r0
  obtain rfl : args = #[v0] := by cases args; simp_all
  obtain ⟨rfl, rfl⟩ := trodVars_none hV
  have k0 := h0
  have lt0 : ∀ x ∈ p0, x.block < W.heap.size := by obtain ⟨m, hm⟩ := k0; exact DataW.trod_lt m _ _ _ hm
  obtain ⟨b0, len0, cap0, rfl⟩ := okWide_slice Try.underlying45 (hval 0 45 v0 rfl rfl)
  obtain ⟨row0, mx0⟩ : Bys W b0 len0 ∧ len0 ≤ 9223372036854775807 := by obtain ⟨fuel, hf⟩ := h0; exact open_bytes hf
  clear hA0 hval0
  refine (amts_walk b0 len0 cap0 W row0 mx0).mono fun e W' ⟨he, bel⟩ => ?_
  subst he
  exact ⟨_, rfl, _, _, _, [], _, [], hW', trodAll_mk1 (shut_bool Try.underlying4 _), (trodAll_cons_mk (Below.trod laidOut (by kernel_rfl) (of_decide_eq_true (by kernel_rfl)) k0 bel lt0) trodAll_mk0), rfl, bel.frame _, fun h => by cases h⟩
/-- THE STATEMENT -/
theorem FnAmts_holds : Rows.FnAmtsSaid :=
  OpenClaim.holds_of_wide 12 Try.f12 rfl rfl rfl rfl rfl rfl rfl ⟨rfl, rfl, rfl, rfl, rfl⟩ rfl rfl rfl rfl rfl (by kernel_rfl) Try.func12 (by kernel_rfl)
    (of_decide_eq_true (by kernel_rfl)) (by unfold Func.isWrapper; first | (rw [if_pos (by decide +kernel)]; kernel_rfl) | (rw [if_neg (by decide +kernel)]; exact ⟨rfl, rfl⟩))
    (fun os started H enc _ => FnAmts_lifted os started H enc)

end Go.Proofs.Ythjchlefafbfoaa
