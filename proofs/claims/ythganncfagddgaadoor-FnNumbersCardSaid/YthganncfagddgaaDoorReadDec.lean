/- Contracts of ReadDec: the program's and the reference's. -/
import Derived.Test.YthganncfagddgaaDoorDec
import Derived.BigQuiet
import Derived.Lib.AtoiAllCases
namespace Go.Proofs.YthganncfagddgaaDoor
set_option linter.unusedSimpArgs false
set_option linter.unusedVariables false
open Go.RowKit

/-- what ReadDec's row lays: the table and the two errors -/
structure RTab (w : World) : Prop where
  tab : DTab w
  syn : ∃ tp p, w.var? Tryd.prog "strconv.ErrSyntax" = some #[.iface tp p]
  rng : ∃ tp p, w.var? Tryd.prog "strconv.ErrRange" = some #[.iface tp p]
theorem var_below {w w' : World} {n : String} {cs : Array Value} (h : w.var? Tryd.prog n = some cs) (hb : Below w.heap.size w w') : w'.var? Tryd.prog n = some cs := by
  unfold World.var? at *
  cases hg : (Tryd.prog).globalNamed n with
  | none => simp [hg] at h
  | some g =>
    simp only [hg, Option.bind_some] at h ⊢
    cases hx : w.heap[g]? with
    | none => rw [hx] at h; cases h
    | some o =>
      have hlt : g < w.heap.size := Nat.lt_of_not_le fun hn => by rw [Array.getElem?_eq_none hn] at hx; cases hx
      rw [hb.block g hlt, hx]; rw [hx] at h; exact h
theorem RTab.below {w w' : World} (h : RTab w) (hb : Below w.heap.size w w') : RTab w' :=
  ⟨h.tab.below hb, let ⟨tp, p, h1⟩ := h.syn; ⟨tp, p, var_below h1 hb⟩, let ⟨tp, p, h1⟩ := h.rng; ⟨tp, p, var_below h1 hb⟩⟩
theorem atoi_yes (s : ByteArray) (hs : s.size ≤ 1048576) (v : Int) (h : Lib.atoiAll s.data.toList = .ok v) (w : World) :
    Calls Tryd.prog 21 #[.string s] w fun e w' => e = .returned (.tuple #[.int .i64 v, .nilIface]) ∧ Below w.heap.size w w' := by
  have C : Calls Tryd.prog 21 #[.string s] w fun e w' => e = .returned (.tuple #[.int .i64 v, .nilIface]) ∧ (w' = w ∨ ∃ t, w' = Lib.bytesWorld w 5 t) := Tryd.strconv_Atoi_ok s (by omega) v h w
  refine C.mono ?_
  rintro e w' ⟨rfl, rfl | ⟨t, rfl⟩⟩
  · exact ⟨rfl, Below.refl _ _⟩
  · exact ⟨rfl, Lib.bytesWorld_below _ _ _⟩
theorem atoi_no (s : ByteArray) (hs : s.size ≤ 1048576) (h : ∀ v, Lib.atoiAll s.data.toList ≠ .ok v) (w : World) (ht : RTab w) :
    Calls Tryd.prog 21 #[.string s] w fun e w' => (∃ (v : Int) (T : TypeId) (p : Value), e = .returned (.tuple #[.int .i64 v, .iface T p])) ∧ Below w.heap.size w w' := by
  cases hq : Lib.atoiAll s.data.toList
  · exact absurd hq (h _)
  · obtain ⟨tp, p, hv⟩ := ht.syn
    exact (Any.strconv_Atoi_syntax_var Tryd.laysC172 s (by omega) hq tp p w hv).mono fun e w' ⟨N, h1, _, _, h2⟩ => ⟨⟨_, _, _, h1⟩, h2⟩
  · obtain ⟨tp, p, hv⟩ := ht.rng
    exact (Any.strconv_Atoi_range_var Tryd.laysC172 s (by omega) hq tp p w hv).mono fun e w' ⟨N, h1, _, _, h2⟩ => ⟨⟨_, _, _, h1⟩, h2⟩
theorem strD_ne {a b : ByteArray} (h : ¬ a = b) : (a.toList == b.toList) = false := by
  rw [beq_eq_false_iff_ne]
  intro e
  rw [ByteArray.toList_eq, ByteArray.toList_eq] at e
  exact h (ByteArray.ext (Array.toList_inj.1 e))
theorem strD_eq {a b : ByteArray} (h : a = b) : (a.toList == b.toList) = true := by subst h; simp
theorem nine_in (v : Int) : inB v (-999999999) 999999999 = nine v := rfl
theorem decS_eq {v : Int} {s : ByteArray} : decS v = s ↔ Lib.itoa v = s.data.toList := by
  constructor
  · intro h; rw [← h]; simp [decS]
  · intro h
    unfold decS
    rw [h]
theorem rdI_no {l : List UInt8} (h : ∀ v, Lib.atoiAll l ≠ .ok v) : rdI l = (0, false) := by
  unfold rdI
  cases hq : Lib.atoiAll l
  · exact absurd hq (h _)
  · rfl
  · rfl
theorem rdI_far {l : List UInt8} {v : Int} (h : Lib.atoiAll l = .ok v) (h2 : (nine v && decide (Lib.itoa v = l)) = false) : rdI l = (0, false) := by
  unfold rdI
  rw [h]
  simp only [h2]; rfl
theorem rdI_near {l : List UInt8} {v : Int} (h : Lib.atoiAll l = .ok v) (h2 : (nine v && decide (Lib.itoa v = l)) = true) : rdI l = (v, true) := by
  unfold rdI
  rw [h]
  simp only [h2]; rfl
set_option maxHeartbeats 3200000 in
theorem implReadDec_any (s : ByteArray) (hs : s.size ≤ 1048576) (w : World) (ht : RTab w) :
    Calls Tryd.prog 9 #[.string s] w fun e w' => e = .returned (.tuple #[.int .i64 (rdI s.data.toList).1, .bool (rdI s.data.toList).2]) ∧ Below w.heap.size w w' := by
  by_cases hx : ∃ v, Lib.atoiAll s.data.toList = .ok v
  · obtain ⟨v, hv⟩ := hx
    have C := Lib.hid (atoi_yes s hs v hv w)
    have hbd := Lib.atoiAll_bounds hv
    have D := Lib.hid (fun w' h => implDec_any v hbd.1 hbd.2 w' h)
    have HT := Lib.hid ht
    clear ht
    cases hn : nine v
    · have hr := Lib.hid (rdI_far hv (by rw [hn]; rfl))
      clear hv hbd
      have hn2 : inB v (-999999999) 999999999 = false := hn
      clear hn
      go_enter Tryd.func9, Tryd.ntmps9
      go_wp2_with fail
      refine C.out.mono ?_
      rintro e w1 ⟨rfl, hb⟩
      go_wp2_with fail
      refine (within_any _ _ _ _).mono ?_
      rintro e _ ⟨rfl, rfl⟩
      rw [hn2]
      go_wp2
      go_ret2
      exact ⟨by rw [hr.out]; rfl, hb⟩
    · have hn2 : inB v (-999999999) 999999999 = true := hn
      by_cases he : decS v = s
      · have hq := strD_eq he
        have hr := Lib.hid (rdI_near hv (by rw [hn, decide_eq_true (decS_eq.1 he)]; rfl))
        clear hv hbd hn he
        go_enter Tryd.func9, Tryd.ntmps9
        go_wp2_with fail
        refine C.out.mono ?_
        rintro e w1 ⟨rfl, hb⟩
        have HT1 := Lib.hid (HT.out.below hb)
        have hs1 := hb.size
        go_wp2_with fail
        refine (within_any _ _ _ _).mono ?_
        rintro e _ ⟨rfl, rfl⟩
        rw [hn2]
        go_wp2_with fail
        refine (D.out _ HT1.out.tab).mono ?_
        rintro e w2 ⟨rfl, hb2⟩
        have hB := Below.trans hb (hb2.mono hs1)
        clear hb hb2
        go_wp2
        go_ret2
        exact ⟨by rw [hr.out]; rfl, hB⟩
      · have hq := strD_ne he
        have hr := Lib.hid (rdI_far hv (by rw [hn, decide_eq_false (fun e => he (decS_eq.2 e))]; rfl))
        clear hv hbd hn he
        go_enter Tryd.func9, Tryd.ntmps9
        go_wp2_with fail
        refine C.out.mono ?_
        rintro e w1 ⟨rfl, hb⟩
        have HT1 := Lib.hid (HT.out.below hb)
        have hs1 := hb.size
        go_wp2_with fail
        refine (within_any _ _ _ _).mono ?_
        rintro e _ ⟨rfl, rfl⟩
        rw [hn2]
        go_wp2_with fail
        refine (D.out _ HT1.out.tab).mono ?_
        rintro e w2 ⟨rfl, hb2⟩
        have hB := Below.trans hb (hb2.mono hs1)
        clear hb hb2
        go_wp2
        go_ret2
        exact ⟨by rw [hr.out]; rfl, hB⟩
  · have hno : ∀ v, Lib.atoiAll s.data.toList ≠ .ok v := fun v h => hx ⟨v, h⟩
    have C := Lib.hid (atoi_no s hs hno w ht)
    have hr := Lib.hid (rdI_no hno)
    clear hx hno ht
    go_enter Tryd.func9, Tryd.ntmps9
    go_wp2_with fail
    refine C.out.mono ?_
    rintro e w1 ⟨⟨v, T, p, rfl⟩, hb⟩
    go_wp2
    go_ret2
    exact ⟨by rw [hr.out]; rfl, hb⟩

theorem take_snocD (s : ByteArray) (k : Nat) (h : k < s.size) : s.data.toList.take (k + 1) = s.data.toList.take k ++ [s[k]] := by
  rw [List.take_add_one]
  congr 1
  have : s.data.toList[k]? = some s[k] := by
    rw [Array.getElem?_toList]
    exact Array.getElem?_eq_getElem (by simpa using h)
  rw [this]; rfl
theorem scan_fig {z c : Nat} {b : UInt8} (h1 : 48 ≤ b.toNat) (h2 : b.toNat ≤ 57) : scan (z, c) b = (z * 10 + (b.toNat - 48), c + 1) := by unfold scan; rw [if_pos ⟨h1, h2⟩]
theorem scan_not {z c : Nat} {b : UInt8} (h : ¬ (48 ≤ b.toNat ∧ b.toNat ≤ 57)) : scan (z, c) b = (z, c) := by unfold scan; rw [if_neg h]
theorem rdS_no {l : List UInt8} (h : 9 < (scanL (l.take 11)).2 ∨ 10 < l.length ∨ Lib.itoa (rdW l) ≠ l) : rdS l = (0, false) := by
  unfold rdS
  rcases h with h | h | h
  · rw [decide_eq_true h]; rfl
  · rw [decide_eq_true h]; simp
  · rw [decide_eq_false h]; simp
theorem rdS_yes {l : List UInt8} (h1 : ¬ 9 < (scanL (l.take 11)).2) (h2 : ¬ 10 < l.length) (h3 : Lib.itoa (rdW l) = l) : rdS l = (rdW l, true) := by
  unfold rdS
  rw [decide_eq_false h1, decide_eq_false h2, decide_eq_true h3]; rfl
set_option maxRecDepth 100000 in
set_option maxHeartbeats 6400000 in
theorem specReadDec_any (s : ByteArray) (hs : s.size ≤ 1048576) (w : World) :
    Calls Tryd.prog 8 #[.string s] w fun e w' => e = .returned (.tuple #[.int .i64 (rdS s.data.toList).1, .bool (rdS s.data.toList).2]) ∧ Below w.heap.size w w' := by
  go_enter Tryd.func8, Tryd.ntmps8
  go_wp2
  go_loop [4, 5, 6] (fun n c i => ∃ (k z q : Nat), k ≤ 11 ∧ k ≤ s.size ∧ i = .int .i64 k ∧ n = .int .i64 z ∧ c = .int .i64 q ∧ q ≤ 11 ∧ z < 100000000000 ∧ Hid (scanL (s.data.toList.take k) = (z, q)) ∧ Hid (z < 10 ^ q ∧ q ≤ k)) (fun _ _ i => 11 - (intOf i).toNat)
  case atStart => exact ⟨0, 0, 0, by omega, by omega, rfl, rfl, rfl, by omega, by omega, rfl, ⟨by decide, by omega⟩⟩
  case round =>
    obtain ⟨k, z, q, hk, hks, rfl, rfl, rfl, hq, hz, hsc, hbd⟩ := hrel
    by_cases hlt : k < s.size
    · by_cases h11 : k < 11
      · have hlt2 : (k : Int) < (s.size : Int) := by omega
        have h112 : (k : Int) < 11 := by omega
        have hb8 := s[k].toNat_lt
        have hsuc := Lib.hid (show scanL (s.data.toList.take (k + 1)) = scan (z, q) s[k] by rw [take_snocD s k hlt, scanL_snoc, hsc.out])
        by_cases h48 : 48 ≤ s[k].toNat
        · have hi48 : (48 : Int) ≤ (s[k].toNat : Int) := by omega
          have hd48 : decide ((48 : Int) ≤ (s[k].toNat : Int)) = true := decide_eq_true hi48
          by_cases h57 : s[k].toNat ≤ 57
          · have hi57 : (s[k].toNat : Int) ≤ 57 := by omega
            have hd57 : decide ((s[k].toNat : Int) ≤ 57) = true := decide_eq_true hi57
            have e1 : ((s[k].toNat : Int) - 48) % 256 = (s[k].toNat : Int) - 48 := by omega
            have hs2 := Lib.hid (hsuc.out.trans (scan_fig h48 h57))
            have hbd2 := Lib.hid (show z * 10 + (s[k].toNat - 48) < 10 ^ (q + 1) ∧ q + 1 ≤ k + 1 by have := hbd.out; rw [Nat.pow_succ]; omega)
            have hz2 : z * 10 + (s[k].toNat - 48) < 100000000000 := by
              have h1 := hbd2.out
              have h2 : 10 ^ (q + 1) ≤ 10 ^ 11 := Nat.pow_le_pow_right (by omega) (by omega)
              omega
            clear hsuc
            go_wp2
            refine ⟨⟨k + 1, z * 10 + (s[k].toNat - 48), q + 1, by omega, by omega, by go_num, ?_, by go_num, by have := hbd2.out; omega, hz2, hs2, hbd2⟩, by simp [intOf]; omega⟩
            congr 1; omega
          · have hi57 : ¬ (s[k].toNat : Int) ≤ 57 := by omega
            have hd57 : decide ((s[k].toNat : Int) ≤ 57) = false := decide_eq_false hi57
            have hs2 := Lib.hid (hsuc.out.trans (scan_not (by omega)))
            have hbd2 := Lib.hid (show z < 10 ^ q ∧ q ≤ k + 1 by have := hbd.out; omega)
            clear hsuc hi57
            go_wp2
            exact ⟨⟨k + 1, z, q, by omega, by omega, by go_num, rfl, rfl, by omega, hz, hs2, hbd2⟩, by simp [intOf]; omega⟩
        · have hi48 : ¬ (48 : Int) ≤ (s[k].toNat : Int) := by omega
          have hd48 : decide ((48 : Int) ≤ (s[k].toNat : Int)) = false := decide_eq_false hi48
          have hs2 := Lib.hid (hsuc.out.trans (scan_not (by omega)))
          have hbd2 := Lib.hid (show z < 10 ^ q ∧ q ≤ k + 1 by have := hbd.out; omega)
          clear hsuc hi48
          go_wp2
          exact ⟨⟨k + 1, z, q, by omega, by omega, by go_num, rfl, rfl, by omega, hz, hs2, hbd2⟩, by simp [intOf]; omega⟩
      · obtain rfl : k = 11 := by omega
        have HS := hsc
        clear hsc
        have h112 : ¬ ((11 : Int) < 11) := by omega
        have hlt2 : (11 : Int) < (s.size : Int) := by omega
        by_cases h0 : s.size = 0
        · have h0i : (s.size : Int) = 0 := by omega
          have h0d : decide ((0 : Int) < (s.size : Int)) = false := decide_eq_false (by omega)
          have HV := Lib.hid (show rdW s.data.toList = (z : Int) by
            have e : s.data.toList = [] := List.eq_nil_of_length_eq_zero (by simpa using h0)
            have h := HS.out
            unfold rdW
            rw [h, e]; rfl)
          have C := Lib.hid (specDec_any ((z : Int)) (by omega) (by omega) w)
          by_cases hC : 9 < q
          · have hr := Lib.hid (rdS_no (l := s.data.toList) (.inl (by rw [HS.out]; exact hC)))
            have hCi : (9 : Int) < (q : Int) := by omega
            have hCd : decide ((9 : Int) < (q : Int)) = true := decide_eq_true hCi
            go_wp2
            go_ret2
            exact ⟨by rw [hr.out]; rfl, Below.refl _ _⟩
          · have hCi : ¬ (9 : Int) < (q : Int) := by omega
            have hCd : decide ((9 : Int) < (q : Int)) = false := decide_eq_false hCi
            by_cases hL : 10 < s.size
            · have hr := Lib.hid (rdS_no (l := s.data.toList) (.inr (.inl (by simpa using hL))))
              have hLi : (10 : Int) < (s.size : Int) := by omega
              have hLd : decide ((10 : Int) < (s.size : Int)) = true := decide_eq_true hLi
              clear hCi
              go_wp2
              all_goals
                go_ret2
                exact ⟨by rw [hr.out]; rfl, Below.refl _ _⟩
            · have hLi : ¬ (10 : Int) < (s.size : Int) := by omega
              have hLd : decide ((10 : Int) < (s.size : Int)) = false := decide_eq_false hLi
              by_cases he : decS ((z : Int)) = s
              · have hq := strD_eq he
                have hr := Lib.hid (rdS_yes (l := s.data.toList) (by rw [HS.out]; exact hC) (by simpa using hL) (by rw [HV.out]; exact decS_eq.1 he))
                clear he hCi hLi hC hL
                go_wp2_with fail
                refine C.out.mono ?_
                rintro e w1 ⟨rfl, hb⟩
                go_wp2
                go_ret2
                exact ⟨by rw [hr.out, HV.out]; rfl, hb⟩
              · have hq := strD_ne he
                have hr := Lib.hid (rdS_no (l := s.data.toList) (.inr (.inr (by rw [HV.out]; exact fun e => he (decS_eq.2 e)))))
                clear he hCi hLi hC hL
                go_wp2_with fail
                refine C.out.mono ?_
                rintro e w1 ⟨rfl, hb⟩
                go_wp2
                go_ret2
                exact ⟨by rw [hr.out]; rfl, hb⟩
        · have h0n : 0 < s.size := by omega
          have h0i : (0 : Int) < (s.size : Int) := by omega
          have h0d : decide ((0 : Int) < (s.size : Int)) = true := decide_eq_true h0i
          have hhd : s.data.toList.head? = some s[0] := by
            rw [List.head?_eq_getElem?, Array.getElem?_toList]
            exact Array.getElem?_eq_getElem (by simpa using h0n)
          by_cases h45 : s[0] = 45
          · have hb : (s[0].toNat : Int) = 45 := by rw [h45]; rfl
            have hbb : ((s[0].toNat : Int) == 45) = true := by rw [hb]; rfl
            have HV := Lib.hid (show rdW s.data.toList = -(z : Int) by
              unfold rdW
              rw [if_pos (by rw [hhd, h45]), HS.out])
            clear hhd h45 hb
            have C := Lib.hid (specDec_any (-(z : Int)) (by omega) (by omega) w)
            by_cases hC : 9 < q
            · have hr := Lib.hid (rdS_no (l := s.data.toList) (.inl (by rw [HS.out]; exact hC)))
              have hCi : (9 : Int) < (q : Int) := by omega
              have hCd : decide ((9 : Int) < (q : Int)) = true := decide_eq_true hCi
              go_wp2
              go_ret2
              exact ⟨by rw [hr.out]; rfl, Below.refl _ _⟩
            · have hCi : ¬ (9 : Int) < (q : Int) := by omega
              have hCd : decide ((9 : Int) < (q : Int)) = false := decide_eq_false hCi
              by_cases hL : 10 < s.size
              · have hr := Lib.hid (rdS_no (l := s.data.toList) (.inr (.inl (by simpa using hL))))
                have hLi : (10 : Int) < (s.size : Int) := by omega
                have hLd : decide ((10 : Int) < (s.size : Int)) = true := decide_eq_true hLi
                clear hCi
                go_wp2
                all_goals
                  go_ret2
                  exact ⟨by rw [hr.out]; rfl, Below.refl _ _⟩
              · have hLi : ¬ (10 : Int) < (s.size : Int) := by omega
                have hLd : decide ((10 : Int) < (s.size : Int)) = false := decide_eq_false hLi
                by_cases he : decS (-(z : Int)) = s
                · have hq := strD_eq he
                  have hr := Lib.hid (rdS_yes (l := s.data.toList) (by rw [HS.out]; exact hC) (by simpa using hL) (by rw [HV.out]; exact decS_eq.1 he))
                  clear he hCi hLi hC hL
                  go_wp2_with fail
                  refine C.out.mono ?_
                  rintro e w1 ⟨rfl, hb⟩
                  go_wp2
                  go_ret2
                  exact ⟨by rw [hr.out, HV.out]; rfl, hb⟩
                · have hq := strD_ne he
                  have hr := Lib.hid (rdS_no (l := s.data.toList) (.inr (.inr (by rw [HV.out]; exact fun e => he (decS_eq.2 e)))))
                  clear he hCi hLi hC hL
                  go_wp2_with fail
                  refine C.out.mono ?_
                  rintro e w1 ⟨rfl, hb⟩
                  go_wp2
                  go_ret2
                  exact ⟨by rw [hr.out]; rfl, hb⟩
          · have hbb : ((s[0].toNat : Int) == 45) = false := by
              simp only [beq_eq_false_iff_ne]
              intro e
              exact h45 (UInt8.toNat_inj.1 (by show s[0].toNat = 45; omega))
            have HV := Lib.hid (show rdW s.data.toList = (z : Int) by
              unfold rdW
              rw [if_neg (by rw [hhd]; intro e; exact h45 (Option.some.inj e)), HS.out])
            clear hhd h45
            have C := Lib.hid (specDec_any ((z : Int)) (by omega) (by omega) w)
            by_cases hC : 9 < q
            · have hr := Lib.hid (rdS_no (l := s.data.toList) (.inl (by rw [HS.out]; exact hC)))
              have hCi : (9 : Int) < (q : Int) := by omega
              have hCd : decide ((9 : Int) < (q : Int)) = true := decide_eq_true hCi
              go_wp2
              go_ret2
              exact ⟨by rw [hr.out]; rfl, Below.refl _ _⟩
            · have hCi : ¬ (9 : Int) < (q : Int) := by omega
              have hCd : decide ((9 : Int) < (q : Int)) = false := decide_eq_false hCi
              by_cases hL : 10 < s.size
              · have hr := Lib.hid (rdS_no (l := s.data.toList) (.inr (.inl (by simpa using hL))))
                have hLi : (10 : Int) < (s.size : Int) := by omega
                have hLd : decide ((10 : Int) < (s.size : Int)) = true := decide_eq_true hLi
                clear hCi
                go_wp2
                all_goals
                  go_ret2
                  exact ⟨by rw [hr.out]; rfl, Below.refl _ _⟩
              · have hLi : ¬ (10 : Int) < (s.size : Int) := by omega
                have hLd : decide ((10 : Int) < (s.size : Int)) = false := decide_eq_false hLi
                by_cases he : decS ((z : Int)) = s
                · have hq := strD_eq he
                  have hr := Lib.hid (rdS_yes (l := s.data.toList) (by rw [HS.out]; exact hC) (by simpa using hL) (by rw [HV.out]; exact decS_eq.1 he))
                  clear he hCi hLi hC hL
                  go_wp2_with fail
                  refine C.out.mono ?_
                  rintro e w1 ⟨rfl, hb⟩
                  go_wp2
                  go_ret2
                  exact ⟨by rw [hr.out, HV.out]; rfl, hb⟩
                · have hq := strD_ne he
                  have hr := Lib.hid (rdS_no (l := s.data.toList) (.inr (.inr (by rw [HV.out]; exact fun e => he (decS_eq.2 e)))))
                  clear he hCi hLi hC hL
                  go_wp2_with fail
                  refine C.out.mono ?_
                  rintro e w1 ⟨rfl, hb⟩
                  go_wp2
                  go_ret2
                  exact ⟨by rw [hr.out]; rfl, hb⟩
    · obtain rfl : k = s.size := by omega
      have HS := Lib.hid (show scanL (s.data.toList.take 11) = (z, q) by
        have h := hsc.out
        rw [List.take_of_length_le (by simp)] at h
        rw [List.take_of_length_le (by simpa using hk)]; exact h)
      clear hsc
      by_cases h0 : s.size = 0
      · have h0i : (s.size : Int) = 0 := by omega
        have h0d : decide ((0 : Int) < (s.size : Int)) = false := decide_eq_false (by omega)
        have HV := Lib.hid (show rdW s.data.toList = (z : Int) by
          have e : s.data.toList = [] := List.eq_nil_of_length_eq_zero (by simpa using h0)
          have h := HS.out
          unfold rdW
          rw [h, e]; rfl)
        have C := Lib.hid (specDec_any ((z : Int)) (by omega) (by omega) w)
        by_cases hC : 9 < q
        · have hr := Lib.hid (rdS_no (l := s.data.toList) (.inl (by rw [HS.out]; exact hC)))
          have hCi : (9 : Int) < (q : Int) := by omega
          have hCd : decide ((9 : Int) < (q : Int)) = true := decide_eq_true hCi
          go_wp2
          go_ret2
          exact ⟨by rw [hr.out]; rfl, Below.refl _ _⟩
        · have hCi : ¬ (9 : Int) < (q : Int) := by omega
          have hCd : decide ((9 : Int) < (q : Int)) = false := decide_eq_false hCi
          by_cases hL : 10 < s.size
          · have hr := Lib.hid (rdS_no (l := s.data.toList) (.inr (.inl (by simpa using hL))))
            have hLi : (10 : Int) < (s.size : Int) := by omega
            have hLd : decide ((10 : Int) < (s.size : Int)) = true := decide_eq_true hLi
            clear hCi
            go_wp2
            all_goals
              go_ret2
              exact ⟨by rw [hr.out]; rfl, Below.refl _ _⟩
          · have hLi : ¬ (10 : Int) < (s.size : Int) := by omega
            have hLd : decide ((10 : Int) < (s.size : Int)) = false := decide_eq_false hLi
            by_cases he : decS ((z : Int)) = s
            · have hq := strD_eq he
              have hr := Lib.hid (rdS_yes (l := s.data.toList) (by rw [HS.out]; exact hC) (by simpa using hL) (by rw [HV.out]; exact decS_eq.1 he))
              clear he hCi hLi hC hL
              go_wp2_with fail
              refine C.out.mono ?_
              rintro e w1 ⟨rfl, hb⟩
              go_wp2
              go_ret2
              exact ⟨by rw [hr.out, HV.out]; rfl, hb⟩
            · have hq := strD_ne he
              have hr := Lib.hid (rdS_no (l := s.data.toList) (.inr (.inr (by rw [HV.out]; exact fun e => he (decS_eq.2 e)))))
              clear he hCi hLi hC hL
              go_wp2_with fail
              refine C.out.mono ?_
              rintro e w1 ⟨rfl, hb⟩
              go_wp2
              go_ret2
              exact ⟨by rw [hr.out]; rfl, hb⟩
      · have h0n : 0 < s.size := by omega
        have h0i : (0 : Int) < (s.size : Int) := by omega
        have h0d : decide ((0 : Int) < (s.size : Int)) = true := decide_eq_true h0i
        have hhd : s.data.toList.head? = some s[0] := by
          rw [List.head?_eq_getElem?, Array.getElem?_toList]
          exact Array.getElem?_eq_getElem (by simpa using h0n)
        by_cases h45 : s[0] = 45
        · have hb : (s[0].toNat : Int) = 45 := by rw [h45]; rfl
          have hbb : ((s[0].toNat : Int) == 45) = true := by rw [hb]; rfl
          have HV := Lib.hid (show rdW s.data.toList = -(z : Int) by
            unfold rdW
            rw [if_pos (by rw [hhd, h45]), HS.out])
          clear hhd h45 hb
          have C := Lib.hid (specDec_any (-(z : Int)) (by omega) (by omega) w)
          by_cases hC : 9 < q
          · have hr := Lib.hid (rdS_no (l := s.data.toList) (.inl (by rw [HS.out]; exact hC)))
            have hCi : (9 : Int) < (q : Int) := by omega
            have hCd : decide ((9 : Int) < (q : Int)) = true := decide_eq_true hCi
            go_wp2
            go_ret2
            exact ⟨by rw [hr.out]; rfl, Below.refl _ _⟩
          · have hCi : ¬ (9 : Int) < (q : Int) := by omega
            have hCd : decide ((9 : Int) < (q : Int)) = false := decide_eq_false hCi
            by_cases hL : 10 < s.size
            · have hr := Lib.hid (rdS_no (l := s.data.toList) (.inr (.inl (by simpa using hL))))
              have hLi : (10 : Int) < (s.size : Int) := by omega
              have hLd : decide ((10 : Int) < (s.size : Int)) = true := decide_eq_true hLi
              clear hCi
              go_wp2
              all_goals
                go_ret2
                exact ⟨by rw [hr.out]; rfl, Below.refl _ _⟩
            · have hLi : ¬ (10 : Int) < (s.size : Int) := by omega
              have hLd : decide ((10 : Int) < (s.size : Int)) = false := decide_eq_false hLi
              by_cases he : decS (-(z : Int)) = s
              · have hq := strD_eq he
                have hr := Lib.hid (rdS_yes (l := s.data.toList) (by rw [HS.out]; exact hC) (by simpa using hL) (by rw [HV.out]; exact decS_eq.1 he))
                clear he hCi hLi hC hL
                go_wp2_with fail
                refine C.out.mono ?_
                rintro e w1 ⟨rfl, hb⟩
                go_wp2
                go_ret2
                exact ⟨by rw [hr.out, HV.out]; rfl, hb⟩
              · have hq := strD_ne he
                have hr := Lib.hid (rdS_no (l := s.data.toList) (.inr (.inr (by rw [HV.out]; exact fun e => he (decS_eq.2 e)))))
                clear he hCi hLi hC hL
                go_wp2_with fail
                refine C.out.mono ?_
                rintro e w1 ⟨rfl, hb⟩
                go_wp2
                go_ret2
                exact ⟨by rw [hr.out]; rfl, hb⟩
        · have hbb : ((s[0].toNat : Int) == 45) = false := by
            simp only [beq_eq_false_iff_ne]
            intro e
            exact h45 (UInt8.toNat_inj.1 (by show s[0].toNat = 45; omega))
          have HV := Lib.hid (show rdW s.data.toList = (z : Int) by
            unfold rdW
            rw [if_neg (by rw [hhd]; intro e; exact h45 (Option.some.inj e)), HS.out])
          clear hhd h45
          have C := Lib.hid (specDec_any ((z : Int)) (by omega) (by omega) w)
          by_cases hC : 9 < q
          · have hr := Lib.hid (rdS_no (l := s.data.toList) (.inl (by rw [HS.out]; exact hC)))
            have hCi : (9 : Int) < (q : Int) := by omega
            have hCd : decide ((9 : Int) < (q : Int)) = true := decide_eq_true hCi
            go_wp2
            go_ret2
            exact ⟨by rw [hr.out]; rfl, Below.refl _ _⟩
          · have hCi : ¬ (9 : Int) < (q : Int) := by omega
            have hCd : decide ((9 : Int) < (q : Int)) = false := decide_eq_false hCi
            by_cases hL : 10 < s.size
            · have hr := Lib.hid (rdS_no (l := s.data.toList) (.inr (.inl (by simpa using hL))))
              have hLi : (10 : Int) < (s.size : Int) := by omega
              have hLd : decide ((10 : Int) < (s.size : Int)) = true := decide_eq_true hLi
              clear hCi
              go_wp2
              all_goals
                go_ret2
                exact ⟨by rw [hr.out]; rfl, Below.refl _ _⟩
            · have hLi : ¬ (10 : Int) < (s.size : Int) := by omega
              have hLd : decide ((10 : Int) < (s.size : Int)) = false := decide_eq_false hLi
              by_cases he : decS ((z : Int)) = s
              · have hq := strD_eq he
                have hr := Lib.hid (rdS_yes (l := s.data.toList) (by rw [HS.out]; exact hC) (by simpa using hL) (by rw [HV.out]; exact decS_eq.1 he))
                clear he hCi hLi hC hL
                go_wp2_with fail
                refine C.out.mono ?_
                rintro e w1 ⟨rfl, hb⟩
                go_wp2
                go_ret2
                exact ⟨by rw [hr.out, HV.out]; rfl, hb⟩
              · have hq := strD_ne he
                have hr := Lib.hid (rdS_no (l := s.data.toList) (.inr (.inr (by rw [HV.out]; exact fun e => he (decS_eq.2 e)))))
                clear he hCi hLi hC hL
                go_wp2_with fail
                refine C.out.mono ?_
                rintro e w1 ⟨rfl, hb⟩
                go_wp2
                go_ret2
                exact ⟨by rw [hr.out]; rfl, hb⟩

end Go.Proofs.YthganncfagddgaaDoor
