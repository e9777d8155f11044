/- FnTree: the plain law: what is split off, given, dropped, paid and brought back leaves a tree right and its sum what it was. No program in sight. -/
import Derived.Test.YtdgkfpcecppfdaaETreeGive
import Derived.Test.YtdgkfpcecppfdaaETreeDropM
import Derived.Test.YtdgkfpcecppfdaaETreeAbove
namespace Go.Proofs.Ytdgkfpcecppfdaa
set_option linter.unusedSimpArgs false
set_option linter.unusedVariables false
open Go.RowKit

theorem itF_add (s : Fin 5 → Fin 5) : ∀ (n m : Nat) (x : Fin 5), itF s (n + m) x = itF s m (itF s n x)
  | 0, m, x => by rw [Nat.zero_add]; rfl
  | n + 1, m, x => by rw [show n + 1 + m = (n + m) + 1 by omega]; exact itF_add s n m (s x)
theorem itF_zero (s : Fin 5 → Fin 5) (h0 : s 0 = 0) : ∀ n, itF s n 0 = 0
  | 0 => rfl
  | n + 1 => by show itF s n (s 0) = 0; rw [h0]; exact itF_zero s h0 n
theorem itF_four (s : Fin 5 → Fin 5) (h0 : s 0 = 0) : ∀ (n : Nat) (i : Fin 5), itF s n i = 0 → itF s 4 i = 0
  | 0, i, h => by
    have h : i = 0 := h
    subst h; exact itF_zero s h0 4
  | n + 1, i, h => by
    by_cases hn : n + 1 ≤ 4
    · have h2 := itF_add s (n + 1) (4 - (n + 1)) i
      rw [h, itF_zero s h0, show n + 1 + (4 - (n + 1)) = 4 by omega] at h2
      exact h2
    · have e : n + 1 = (n - 4) + 5 := by omega
      rw [e, itF_add] at h
      have h4 : itF s 4 (itF s (n - 4) i) = 0 := five_four s h0 _ h
      rw [← itF_add, show n - 4 + 4 = n by omega] at h4
      exact itF_four s h0 n i h4
theorem go_any {t : List El} (hc : Closed t) {j : Nat} {x : El} (hj : j < 5) (hx : t[j]? = some x) (hl : x.1 = true) (h : ∃ f, goUp t f j = 0) : goUp t 4 j = 0 := by
  obtain ⟨f, hf⟩ := h
  rw [go_fin hc f j x hj hx hl] at hf
  rw [go_fin hc 4 j x hj hx hl]
  have h1 : itF (sOf t) f ⟨j, hj⟩ = 0 := Fin.ext (by show (itF (sOf t) f ⟨j, hj⟩).val = 0; omega)
  rw [itF_four (sOf t) rfl f _ h1]; rfl
theorem Right.go {t : List El} (h : Right t) {j : Nat} {x : El} (hj : j < 5) (hx : t[j]? = some x) (hl : x.1 = true) : goUp t 4 j = 0 := by
  have hg := h.good j x hj hx
  unfold goodI at hg
  rw [if_pos hl, Bool.and_eq_true, up_go h.closed 4 j x hj hx hl, decide_eq_true_eq] at hg
  exact hg.2
theorem Right.dead {t : List El} (h : Right t) {j : Nat} {x : El} (hj : j < 5) (hx : t[j]? = some x) (hl : x.1 = false) : x = zEl := by
  have hg := h.good j x hj hx
  unfold goodI at hg
  rw [hl] at hg
  simpa using hg
theorem right_of {t : List El} (len : t.length = 5) (root : ∃ x, t[0]? = some x ∧ x.1 = true ∧ x.2.1 = -1) (dead : ∀ (j : Nat) (x : El), j < 5 → t[j]? = some x → x.1 = false → x = zEl)
    (bal : ∀ (j : Nat) (x : El), j < 5 → t[j]? = some x → x.1 = true → balOk x = true) (hc : Closed t) (up : ∀ (j : Nat) (x : El), j < 5 → t[j]? = some x → x.1 = true → ∃ f, goUp t f j = 0)
    (sum : okB3 (sumL t) = true) : Right t := by
  refine ⟨len, root, fun j x hj hx => ?_, sum⟩
  unfold goodI
  cases hl : x.1
  · have := dead j x hj hx hl
    simp [this]
  · rw [if_pos rfl, bal j x hj hx hl, up_go hc 4 j x hj hx hl, go_any hc hj hx hl (up j x hj hx hl)]
    rfl
/-- where what is live has the same parent, it goes the same way -/
theorem go_alike {t u : List El} (hc : Closed t) (h : ∀ (j : Nat) (y : El), j < 5 → t[j]? = some y → y.1 = true → parAt u j = parAt t j) : ∀ (f j : Nat) (y : El), j < 5 → t[j]? = some y → y.1 = true → goUp u f j = goUp t f j
  | 0, _, _, _, _, _ => rfl
  | f + 1, j, y, hj, hy, hl => by
    rw [goUp, goUp]
    by_cases h0 : j = 0
    · subst h0; rw [if_neg (by omega), if_neg (by omega)]
    · obtain ⟨q, z, hq, he, hz, hzl⟩ := hc j y hj hy hl h0
      rw [if_pos (by omega), if_pos (by omega), h j y hj hy hl, parAt_nat hy, he]
      exact go_alike hc h f q z hq hz hzl

/-! sums -/
def wt (x : El) : B3 := if x.1 then x.2.2 else (0, 0, 0)
def sumF : List El → B3
  | [] => (0, 0, 0)
  | x :: xs => add33 (wt x) (sumF xs)
theorem sumF_cons (x : El) (xs : List El) : sumF (x :: xs) = add33 (wt x) (sumF xs) := rfl
theorem b3_ext {a b : B3} (h1 : a.1 = b.1) (h2 : a.2.1 = b.2.1) (h3 : a.2.2 = b.2.2) : a = b := Prod.ext h1 (Prod.ext h2 h3)
theorem fold_sum : ∀ (t : List El) (s : B3), t.foldl (fun s x => if x.1 then add3 s x else s) s = add33 s (sumF t)
  | [], s => by
    refine b3_ext ?_ ?_ ?_ <;> simp [add33, sumF]
  | x :: xs, s => by
    rw [List.foldl_cons, fold_sum xs, sumF_cons]
    cases hl : x.1
    · refine b3_ext ?_ ?_ ?_ <;> simp [add33, wt, hl]
    · refine b3_ext ?_ ?_ ?_ <;> simp only [add33, wt, hl, add3, if_true] <;> omega
theorem sumL_F (t : List El) : sumL t = sumF t := by
  unfold sumL
  rw [fold_sum]
  refine b3_ext ?_ ?_ ?_ <;> simp [add33]
theorem sumF_set : ∀ (t : List El) (k : Nat) (x y : El), t[k]? = some x → sumF (t.set k y) = add33 (sub33 (sumF t) (wt x)) (wt y)
  | [], _, _, _, h => by simp at h
  | z :: zs, 0, x, y, h => by
    simp only [List.getElem?_cons_zero, Option.some.injEq] at h
    subst h
    rw [List.set_cons_zero, sumF_cons, sumF_cons]
    refine b3_ext ?_ ?_ ?_ <;> simp only [add33, sub33] <;> omega
  | z :: zs, k + 1, x, y, h => by
    rw [List.getElem?_cons_succ] at h
    rw [List.set_cons_succ]
    rw [sumF_cons, sumF_cons, sumF_set zs k x y h]
    refine b3_ext ?_ ?_ ?_ <;> simp only [add33, sub33] <;> omega
theorem sumL_set {t : List El} {k : Nat} {x : El} (y : El) (h : t[k]? = some x) : sumL (t.set k y) = add33 (sub33 (sumL t) (wt x)) (wt y) := by
  rw [sumL_F, sumL_F]; exact sumF_set t k x y h
theorem sumF_map (f : El → El) (hf : ∀ x, wt (f x) = wt x) : ∀ t : List El, sumF (t.map f) = sumF t
  | [] => rfl
  | x :: xs => by
    rw [List.map_cons, sumF_cons, sumF_cons, hf, sumF_map f hf xs]
theorem wt_live {x : El} (h : x.1 = true) : wt x = x.2.2 := by simp [wt, h]
theorem wt_dead {x : El} (h : x.1 = false) : wt x = (0, 0, 0) := by simp [wt, h]
theorem ok3 {b : B3} : okB3 b = true ↔ (0 ≤ b.1 ∧ b.1 ≤ 1000000) ∧ (0 ≤ b.2.1 ∧ b.2.1 ≤ 1000000) ∧ (0 ≤ b.2.2 ∧ b.2.2 ≤ 1000000) := by
  constructor
  · exact amtB_true
  · intro h
    simp only [okB3, amtB, inB, Bool.and_eq_true, decide_eq_true_eq]
    exact ⟨⟨h.1, h.2.1⟩, h.2.2⟩
theorem fits3_iff {a b : B3} : fits3 a b = true ↔ okB3 a = true ∧ okB3 b = true ∧ a.1 ≤ b.1 ∧ a.2.1 ≤ b.2.1 ∧ a.2.2 ≤ b.2.2 := by
  simp [fits3, fitsB, okB3, and_assoc]
theorem set_get {t : List El} {k j : Nat} {x y : El} (h : t[k]? = some x) : (t.set k y)[j]? = if k = j then some y else t[j]? := by
  rw [List.getElem?_set]
  by_cases e : k = j
  · subst e; rw [if_pos rfl, if_pos rfl, if_pos (List.getElem?_eq_some_iff.1 h).1]
  · rw [if_neg e, if_neg e]
theorem parAt_of {t u : List El} {j : Nat} {x y : El} (hx : t[j]? = some x) (hy : u[j]? = some y) (h : y.2.1 = x.2.1) : parAt u j = parAt t j := by rw [parAt_nat hx, parAt_nat hy, h]
/-- another balance -/
theorem right_setBal {t : List El} (hR : Right t) {q : Nat} {x : El} (hq : q < 5) (hx : t[q]? = some x) (hl : x.1 = true) (b : B3) (hb : okB3 b = true) (hs : okB3 (add33 (sub33 (sumL t) x.2.2) b) = true) : Right (t.set q (setBal x b)) := by
  have get := fun j => set_get (j := j) (y := setBal x b) hx
  have par : ∀ (j : Nat) (y : El), j < 5 → t[j]? = some y → parAt (t.set q (setBal x b)) j = parAt t j := by
    intro j y hj hy
    by_cases e : q = j
    · subst e; exact parAt_of (y := setBal x b) hx (by rw [get, if_pos rfl]) rfl
    · exact parAt_of hy (by rw [get, if_neg e]; exact hy) rfl
  have old : ∀ (j : Nat) (y : El), (t.set q (setBal x b))[j]? = some y → ∃ y', t[j]? = some y' ∧ y'.1 = y.1 ∧ y'.2.1 = y.2.1 ∧ (q ≠ j → y' = y) := by
    intro j y h
    rw [get] at h
    by_cases e : q = j
    · subst e; rw [if_pos rfl] at h; cases h; exact ⟨x, hx, rfl, rfl, fun h => absurd rfl h⟩
    · rw [if_neg e] at h; exact ⟨y, h, rfl, rfl, fun _ => rfl⟩
  have fwd : ∀ (j : Nat) (y : El), t[j]? = some y → ∃ y', (t.set q (setBal x b))[j]? = some y' ∧ y'.1 = y.1 ∧ y'.2.1 = y.2.1 := by
    intro j y h
    by_cases e : q = j
    · subst e; rw [hx] at h; cases h; exact ⟨setBal x b, by rw [get, if_pos rfl], rfl, rfl⟩
    · exact ⟨y, by rw [get, if_neg e]; exact h, rfl, rfl⟩
  refine right_of (by rw [List.length_set]; exact hR.len) ?_ ?_ ?_ ?_ ?_ ?_
  · obtain ⟨r, h1, h2, h3⟩ := hR.root
    obtain ⟨r', h4, h5, h6⟩ := fwd 0 r h1
    exact ⟨r', h4, by rw [h5, h2], by rw [h6, h3]⟩
  · intro j y hj hy hd
    obtain ⟨y', h1, h2, h3, h4⟩ := old j y hy
    by_cases e : q = j
    · subst e; rw [hx] at h1; cases h1; rw [hl] at h2; rw [hd] at h2; cases h2
    · rw [← h4 e]; exact hR.dead hj h1 (by rw [h2, hd])
  · intro j y hj hy hd
    by_cases e : q = j
    · subst e; rw [get, if_pos rfl] at hy; cases hy; exact hb
    · rw [get, if_neg e] at hy; exact hR.bal hy
  · intro j y hj hy hd h0
    obtain ⟨y', h1, h2, h3, h4⟩ := old j y hy
    obtain ⟨p, z, hp, he, hz, hzl⟩ := hR.closed j y' hj h1 (by rw [h2, hd]) h0
    obtain ⟨z', h5, h6, h7⟩ := fwd p z hz
    exact ⟨p, z', hp, by rw [← h3, he], h5, by rw [h6, hzl]⟩
  · intro j y hj hy hd
    obtain ⟨y', h1, h2, h3, h4⟩ := old j y hy
    exact ⟨4, by rw [go_alike hR.closed (fun j y hj hy _ => par j y hj hy) 4 j y' hj h1 (by rw [h2, hd])]; exact hR.go hj h1 (by rw [h2, hd])⟩
  · rw [sumL_set _ hx, wt_live hl, wt_live (x := setBal x b) hl]; exact hs
/-- a new place -/
theorem right_add {t : List El} (hR : Right t) {k p : Nat} {e y : El} (hk : k < 5) (he : t[k]? = some e) (hd : e.1 = false) (hp : p < 5) (hy : t[p]? = some y) (hl : y.1 = true) (a : B3) (ha : okB3 a = true) (hs : okB3 (add33 (sumL t) a) = true) : Right (t.set k (true, (p : Int), a)) := by
  have get := fun j => set_get (j := j) (y := (true, (p : Int), a)) he
  have hk0 : k ≠ 0 := by
    rintro rfl
    obtain ⟨r, h1, h2, h3⟩ := hR.root
    rw [he] at h1; cases h1; rw [hd] at h2; cases h2
  have ne : ∀ (j : Nat) (z : El), t[j]? = some z → z.1 = true → k ≠ j := by
    rintro j z h1 h2 rfl
    rw [he] at h1; cases h1; rw [hd] at h2; cases h2
  have fwd : ∀ (j : Nat) (z : El), t[j]? = some z → z.1 = true → (t.set k (true, (p : Int), a))[j]? = some z := by
    intro j z h1 h2
    rw [get, if_neg (ne j z h1 h2)]; exact h1
  have par : ∀ (j : Nat) (z : El), j < 5 → t[j]? = some z → z.1 = true → parAt (t.set k (true, (p : Int), a)) j = parAt t j := by
    intro j z hj hz hl
    exact parAt_of hz (fwd j z hz hl) rfl
  have hpar : parAt (t.set k (true, (p : Int), a)) k = p := by
    have : (t.set k (true, (p : Int), a))[k]? = some (true, (p : Int), a) := by rw [get, if_pos rfl]
    rw [parAt_nat this]
  refine right_of (by rw [List.length_set]; exact hR.len) ?_ ?_ ?_ ?_ ?_ ?_
  · obtain ⟨r, h1, h2, h3⟩ := hR.root
    exact ⟨r, fwd 0 r h1 h2, h2, h3⟩
  · intro j z hj hz hd
    rw [get] at hz
    by_cases e : k = j
    · rw [if_pos e] at hz; cases hz; cases hd
    · rw [if_neg e] at hz; exact hR.dead hj hz hd
  · intro j z hj hz hd
    rw [get] at hz
    by_cases e : k = j
    · rw [if_pos e] at hz; cases hz; exact ha
    · rw [if_neg e] at hz; exact hR.bal hz
  · intro j z hj hz hd h0
    rw [get] at hz
    by_cases e : k = j
    · rw [if_pos e] at hz; cases hz
      exact ⟨p, y, hp, rfl, fwd p y hy hl, hl⟩
    · rw [if_neg e] at hz
      obtain ⟨q, u, hq, h1, h2, h3⟩ := hR.closed j z hj hz hd h0
      exact ⟨q, u, hq, h1, fwd q u h2 h3, h3⟩
  · intro j z hj hz hd
    rw [get] at hz
    by_cases e : k = j
    · subst e
      refine ⟨5, ?_⟩
      rw [goUp, if_pos (by omega), hpar, go_alike hR.closed par 4 p y hp hy hl]
      exact hR.go hp hy hl
    · rw [if_neg e] at hz
      exact ⟨4, by rw [go_alike hR.closed par 4 j z hj hz hd]; exact hR.go hj hz hd⟩
  · rw [sumL_set _ he, wt_dead hd, wt_live (x := (true, (p : Int), a)) rfl]
    have e : add33 (sub33 (sumL t) (0, 0, 0)) a = add33 (sumL t) a := by refine b3_ext ?_ ?_ ?_ <;> simp [add33, sub33]
    show okB3 (add33 (sub33 (sumL t) (0, 0, 0)) a) = true
    rw [e]; exact hs

/-! pay and back -/
theorem pay_right {t : List El} {i : Int} {a : B3} (h : (treePay t i a).2 = true) : Right (treePay t i a).1 ∧ sumL (treePay t i a).1 = sub33 (sumL t) a ∧ okB3 a = true := by
  obtain ⟨hR, q, x, rfl, hq, hx, hl, hf, hz⟩ := treePay_true h
  rw [hz]
  obtain ⟨f1, f2, f3, f4, f5⟩ := fits3_iff.1 hf
  have o1 := ok3.1 f1
  have o2 := ok3.1 f2
  have hs := ok3.1 hR.sum
  have hle := hR.bal_le hx
  have e : add33 (sub33 (sumL t) x.2.2) (sub33 x.2.2 a) = sub33 (sumL t) a := by refine b3_ext ?_ ?_ ?_ <;> simp only [add33, sub33] <;> omega
  refine ⟨right_setBal hR hq hx hl _ (ok3.2 ?_) (by rw [e]; refine ok3.2 ?_; simp only [sub33]; omega), by rw [sumL_set _ hx, wt_live hl, wt_live (x := setBal x (sub33 x.2.2 a)) hl]; exact e, f1⟩
  simp only [sub33]; omega
theorem pay_same {t : List El} {i : Int} {a : B3} (h : (treePay t i a).2 = false) : (treePay t i a).1 = t := treePay_false h
theorem back_yes {t : List El} (hR : Right t) {j : Int} {a : B3} (ha : okB3 a = true) (hs : okB3 (add33 (sumL t) a) = true) :
    (treeBack t j a).2 = true ∧ Right (treeBack t j a).1 ∧ sumL (treeBack t j a).1 = add33 (sumL t) a := by
  have hb : backOk t a = true := by
    unfold backOk
    rw [(rightB_iff t).2 hR, ha, hs]; rfl
  obtain ⟨q, hq, y, hy, hl⟩ : ∃ q, toOf t j = q ∧ ∃ y, t[q]? = some y ∧ y.1 = true := by
    unfold toOf
    split
    · rename_i h
      obtain ⟨q, x, rfl, hq, hx, hl⟩ := liveAt_range h
      exact ⟨q, rfl, x, hx, hl⟩
    · obtain ⟨r, h1, h2, h3⟩ := hR.root
      exact ⟨0, rfl, r, h1, h2⟩
  have hq5 : q < 5 := by have := (List.getElem?_eq_some_iff.1 hy).1; have := hR.len; omega
  rw [treeBack_at hb hq hy]
  have o1 := ok3.1 ha
  have o2 := ok3.1 hs
  have hle := hR.bal_le hy
  have e : add33 (sub33 (sumL t) y.2.2) (add33 y.2.2 a) = add33 (sumL t) a := by refine b3_ext ?_ ?_ ?_ <;> simp only [add33, sub33] <;> omega
  simp only [add33] at o2
  refine ⟨rfl, right_setBal hR hq5 hy hl _ (ok3.2 ?_) (by rw [e]; exact hs), by rw [sumL_set _ hy, wt_live hl, wt_live (x := setBal y (add33 y.2.2 a)) hl]; exact e⟩
  simp only [add33]; omega
theorem sub_add (s a : B3) : add33 (sub33 s a) a = s := by refine b3_ext ?_ ?_ ?_ <;> simp only [add33, sub33] <;> omega
theorem pay_back {t : List El} {i : Int} {a : B3} (h : (treePay t i a).2 = true) : treeBack (treePay t i a).1 i a = (t, true) := by
  obtain ⟨hZ, hsz, ha⟩ := pay_right h
  obtain ⟨hR, q, x, rfl, hq, hx, hl, hf, hz⟩ := treePay_true h
  have hb : backOk (treePay t q a).1 a = true := by
    unfold backOk
    rw [(rightB_iff _).2 hZ, ha, hsz, sub_add]
    have : okB3 (sumL t) = true := hR.sum
    rw [this]; rfl
  have hy : (treePay t q a).1[q]? = some (setBal x (sub33 x.2.2 a)) := by rw [hz, set_get hx, if_pos rfl]
  have hto : toOf (treePay t q a).1 q = q := by
    unfold toOf
    rw [liveAt_nat hy hq]
    show (if x.1 = true then _ else 0) = q
    rw [if_pos hl]; rfl
  rw [treeBack_at hb hto hy, hz, List.set_set]
  have e : setBal (setBal x (sub33 x.2.2 a)) (add33 (setBal x (sub33 x.2.2 a)).2.2 a) = x := by
    show (x.1, x.2.1, add33 (sub33 x.2.2 a) a) = x
    rw [sub_add]
  rw [e, set_same hx]

/-! drop -/
theorem wt_rel (i up : Int) (x : El) : wt (relF i up x) = wt x := by
  unfold relF
  split
  · rename_i h
    simp only [Bool.and_eq_true, decide_eq_true_eq] at h
    simp [wt, h.1]
  · rfl
theorem drop_right {t : List El} (hR : Right t) {q p : Nat} {z y : El} (hq : q < 5) (h0 : q ≠ 0) (hz : t[q]? = some z) (hzl : z.1 = true) (hp : p < 5) (hzp : z.2.1 = p) (hy : t[p]? = some y) (hyl : y.1 = true) (hpq : p ≠ q) :
    Right ((dropT t q p z y).map (relF q p)) ∧ sumL ((dropT t q p z y).map (relF q p)) = sumL t := by
  have hz2 : (t.set p (setBal y (add33 y.2.2 z.2.2)))[q]? = some z := by rw [set_get hy, if_neg hpq]; exact hz
  have get : ∀ j : Nat, (dropT t q p z y)[j]? = if q = j then some zEl else if p = j then some (setBal y (add33 y.2.2 z.2.2)) else t[j]? := by
    intro j
    unfold dropT
    rw [set_get hz2, set_get hy]
  have sumD : sumL (dropT t q p z y) = sumL t := by
    unfold dropT
    rw [sumL_set _ hz2, sumL_set _ hy, wt_live hzl, wt_live hyl, wt_live (x := setBal y (add33 y.2.2 z.2.2)) hyl, wt_dead (x := zEl) rfl]
    refine b3_ext ?_ ?_ ?_ <;> simp only [add33, sub33, setBal] <;> omega
  have sumW : sumL ((dropT t q p z y).map (relF q p)) = sumL t := by
    rw [sumL_F, sumF_map _ (wt_rel q p), ← sumL_F, sumD]
  obtain ⟨W, hW⟩ : ∃ W, W = (dropT t q p z y).map (relF q p) := ⟨_, rfl⟩
  rw [← hW] at sumW ⊢
  have hs := ok3.1 hR.sum
  -- what lies in W
  have wget : ∀ j : Nat, W[j]? = ((dropT t q p z y)[j]?).map (relF q p) := by intro j; rw [hW, List.getElem?_map]
  have back : ∀ (j : Nat) (w : El), W[j]? = some w → w.1 = true → q ≠ j ∧ ∃ x, t[j]? = some x ∧ x.1 = true ∧ w.2.1 = (if x.2.1 = (q : Int) then (p : Int) else x.2.1) ∧ w.2.2 = (if p = j then add33 y.2.2 z.2.2 else x.2.2) := by
    intro j w h hl
    rw [wget, get] at h
    by_cases e : q = j
    · rw [if_pos e] at h
      simp only [Option.map_some, Option.some.injEq] at h
      subst h
      simp [relF, zEl] at hl
    · refine ⟨e, ?_⟩
      rw [if_neg e] at h
      by_cases e2 : p = j
      · subst e2
        rw [if_pos rfl] at h
        simp only [Option.map_some, Option.some.injEq] at h
        refine ⟨y, hy, hyl, ?_, ?_⟩
        · rw [← h]
          simp only [relF, setBal, hyl, Bool.true_and]
          by_cases e3 : y.2.1 = (q : Int) <;> simp [e3]
        · rw [← h, if_pos rfl]
          simp only [relF, setBal, hyl, Bool.true_and]
          by_cases e3 : y.2.1 = (q : Int) <;> simp [e3]
      · rw [if_neg e2] at h
        cases hx : t[j]? with
        | none => rw [hx] at h; simp at h
        | some x =>
          rw [hx] at h
          simp only [Option.map_some, Option.some.injEq] at h
          refine ⟨x, rfl, ?_, ?_, ?_⟩
          · rw [← h] at hl
            unfold relF at hl
            split at hl <;> exact hl
          · rw [← h]
            rw [← h] at hl
            unfold relF at hl ⊢
            by_cases e3 : x.2.1 = (q : Int)
            · cases hxl : x.1 <;> simp [e3, hxl] at hl ⊢
            · simp [e3]
          · rw [← h, if_neg e2]
            unfold relF
            split <;> rfl
  have fwd : ∀ (j : Nat) (x : El), t[j]? = some x → x.1 = true → q ≠ j → ∃ w, W[j]? = some w ∧ w.1 = true ∧ w.2.1 = (if x.2.1 = (q : Int) then (p : Int) else x.2.1) := by
    intro j x hx hl hne
    rw [wget, get, if_neg hne]
    by_cases e2 : p = j
    · subst e2
      rw [hy] at hx; cases hx
      rw [if_pos rfl]
      refine ⟨_, rfl, ?_, ?_⟩
      · unfold relF; split <;> exact hyl
      · simp only [relF, setBal, hyl, Bool.true_and]
        by_cases e3 : y.2.1 = (q : Int) <;> simp [e3]
    · rw [if_neg e2, hx]
      refine ⟨_, rfl, ?_, ?_⟩
      · unfold relF; split <;> exact hl
      · simp only [relF, hl, Bool.true_and]
        by_cases e3 : x.2.1 = (q : Int) <;> simp [e3]
  have hc : Closed W := by
    intro j w hj hw hl hj0
    obtain ⟨hne, x, hx, hxl, hpar, _⟩ := back j w hw hl
    by_cases e3 : x.2.1 = (q : Int)
    · rw [if_pos e3] at hpar
      obtain ⟨v, h1, h2, _⟩ := fwd p y hy hyl (Ne.symm hpq)
      exact ⟨p, v, hp, hpar, h1, h2⟩
    · rw [if_neg e3] at hpar
      obtain ⟨r, u, hr, he, hu, hul⟩ := hR.closed j x hj hx hxl hj0
      obtain ⟨v, h1, h2, _⟩ := fwd r u hu hul (by intro e; apply e3; rw [he, e])
      exact ⟨r, v, hr, by rw [hpar, he], h1, h2⟩
  have up : ∀ (f j : Nat) (x : El), j < 5 → t[j]? = some x → x.1 = true → q ≠ j → goUp t f j = 0 → ∃ f', goUp W f' j = 0 := by
    intro f
    induction f using Nat.strongRecOn with
    | _ f ih =>
      intro j x hj hx hl hne hg
      by_cases hj0 : j = 0
      · subst hj0; exact ⟨0, rfl⟩
      · cases f with
        | zero => simp only [goUp] at hg; omega
        | succ f =>
          rw [goUp, if_pos (by omega), parAt_nat hx] at hg
          obtain ⟨w, hw, hwl, hwp⟩ := fwd j x hx hl hne
          by_cases e3 : x.2.1 = (q : Int)
          · rw [if_pos e3] at hwp
            rw [e3] at hg
            cases f with
            | zero => simp only [goUp] at hg; omega
            | succ f =>
              rw [goUp, if_pos (by omega), parAt_nat hz, hzp] at hg
              obtain ⟨f', hf'⟩ := ih f (by omega) p y hp hy hyl (Ne.symm hpq) hg
              exact ⟨f' + 1, by rw [goUp, if_pos (by omega), parAt_nat hw, hwp]; exact hf'⟩
          · rw [if_neg e3] at hwp
            obtain ⟨r, u, hr, he, hu, hul⟩ := hR.closed j x hj hx hl hj0
            rw [he] at hg
            obtain ⟨f', hf'⟩ := ih f (by omega) r u hr hu hul (by intro e; apply e3; rw [he, e]) hg
            exact ⟨f' + 1, by rw [goUp, if_pos (by omega), parAt_nat hw, hwp, he]; exact hf'⟩
  refine ⟨right_of ?_ ?_ ?_ ?_ hc ?_ ?_, sumW⟩
  · rw [hW, List.length_map, dropT_len]; exact hR.len
  · obtain ⟨r, h1, h2, h3⟩ := hR.root
    obtain ⟨w, h4, h5, h6⟩ := fwd 0 r h1 h2 h0
    exact ⟨w, h4, h5, by rw [h6, h3, if_neg (by omega)]⟩
  · intro j w hj hw hd
    rw [wget, get] at hw
    by_cases e : q = j
    · rw [if_pos e] at hw
      simp only [Option.map_some, Option.some.injEq] at hw
      rw [← hw]; rfl
    · rw [if_neg e] at hw
      by_cases e2 : p = j
      · rw [if_pos e2] at hw
        simp only [Option.map_some, Option.some.injEq] at hw
        have : w.1 = true := by rw [← hw]; unfold relF; split <;> exact hyl
        rw [this] at hd; cases hd
      · rw [if_neg e2] at hw
        cases hx : t[j]? with
        | none => rw [hx] at hw; simp at hw
        | some x =>
          rw [hx] at hw
          simp only [Option.map_some, Option.some.injEq] at hw
          have hxd : x.1 = false := by
            rw [← hw] at hd
            unfold relF at hd
            split at hd <;> exact hd
          rw [← hw, hR.dead hj hx hxd]; rfl
  · intro j w hj hw hl
    obtain ⟨hne, x, hx, hxl, _, hb⟩ := back j w hw hl
    show okB3 w.2.2 = true
    rw [hb]
    by_cases e2 : p = j
    · rw [if_pos e2]
      have h1 := hR.bal_le hy
      have h2 := hR.bal_le hz
      have h3 : sumF (dropT t q p z y) = sumL t := by rw [← sumL_F, sumD]
      -- the two balances together are within the sum
      have h4 : okB3 (sub33 (sub33 (sumL t) y.2.2) z.2.2) = true ∨ True := .inr trivial
      have hzb := (right_setBal hR hq hz hzl (0, 0, 0) (by decide) (by
        have := hR.bal_le hz
        refine ok3.2 ?_
        simp only [add33, sub33]; omega))
      have hy2 : (t.set q (setBal z (0, 0, 0)))[p]? = some y := by rw [set_get hz, if_neg (Ne.symm hpq)]; exact hy
      have h5 := hzb.bal_le hy2
      rw [sumL_set _ hz, wt_live hzl, wt_live (x := setBal z (0, 0, 0)) hzl] at h5
      simp only [add33, sub33, setBal] at h5
      refine ok3.2 ?_
      simp only [add33]; omega
    · rw [if_neg e2]; exact hR.bal hx
  · intro j w hj hw hl
    obtain ⟨hne, x, hx, hxl, _, _⟩ := back j w hw hl
    exact up 4 j x hj hx hxl hne (hR.go hj hx hxl)
  · rw [sumW]; exact hR.sum
/-- drop, at a right tree -/
theorem drop_law {t : List El} (hR : Right t) (j : Int) : Right (treeDrop t j).1 ∧ sumL (treeDrop t j).1 = sumL t ∧ (treeDrop t j).2 = (liveAt t j && !decide (j = 0)) := by
  cases h : (liveAt t j && !decide (j = 0))
  · have : treeDrop t j = (t, false) := treeDrop_no (by rw [Bool.and_assoc, h, Bool.and_false])
    rw [this]; exact ⟨hR, rfl, rfl⟩
  · simp only [Bool.and_eq_true, Bool.not_eq_true', decide_eq_false_iff_not] at h
    obtain ⟨q, z, rfl, hq, hz, hzl⟩ := liveAt_range h.1
    have h0 : q ≠ 0 := by have := h.2; omega
    obtain ⟨p, y, hp, hzp, hy, hyl, hpq⟩ := hR.up hq hz hzl h0
    rw [treeDrop_at ((rightB_iff t).2 hR) h0 hz hzl hq hy hzp]
    have := drop_right hR hq h0 hz hzl hp hzp hy hyl hpq
    exact ⟨this.1, this.2, rfl⟩

/-! split -/
theorem split_law {t : List El} (hR : Right t) (i : Int) (a : B3) :
    (treeSplit t i a).1.length = 5 ∧ Right (treeSplit t i a).1 ∧ sumL (treeSplit t i a).1 = sumL t ∧
    (((treeSplit t i a).2 = (0, false) ∧ (treeSplit t i a).1 = t) ∨
     ∃ q : Nat, (treeSplit t i a).2 = ((q : Int), true) ∧ 1 ≤ q ∧ q < 5 ∧ (treeSplit t i a).1[q]? = some (true, i, a) ∧ t[q]? = some zEl ∧ treeDrop (treeSplit t i a).1 q = (t, true)) := by
  cases hp : (treePay t i a).2
  · rw [treeSplit_no hp]; exact ⟨hR.len, hR, rfl, .inl ⟨rfl, rfl⟩⟩
  · obtain ⟨hZ, hsz, ha⟩ := pay_right hp
    obtain ⟨_, r, x, rfl, hr, hx, hl, hf, hz⟩ := treePay_true hp
    cases hfi : t.findIdx? (fun x => !x.1) with
    | none =>
      have e : treeSplit t r a = (t, 0, false) := by unfold treeSplit; rw [if_pos hp, hfi]
      rw [e]; exact ⟨hR.len, hR, rfl, .inl ⟨rfl, rfl⟩⟩
    | some k =>
      have e : treeSplit t r a = ((treePay t r a).1.set k (true, (r : Int), a), (k : Int), true) := by unfold treeSplit; rw [if_pos hp, hfi]
      rw [e, hz]
      rw [hz] at hZ hsz
      obtain ⟨hlt, hd, _⟩ := List.findIdx?_eq_some_iff_getElem.1 hfi
      have hk : t[k]? = some t[k] := List.getElem?_eq_getElem hlt
      generalize t[k] = d at hk hd
      have hd : d.1 = false := by simpa using hd
      have hk5 : k < 5 := by have := hR.len; omega
      obtain rfl := hR.dead hk5 hk hd
      have hrk : r ≠ k := by rintro rfl; rw [hx] at hk; cases hk; cases hl
      have hk0 : k ≠ 0 := by
        rintro rfl
        obtain ⟨u, h1, h2, h3⟩ := hR.root
        rw [hk] at h1; cases h1; cases h2
      have hkz : (t.set r (setBal x (sub33 x.2.2 a)))[k]? = some zEl := by rw [set_get hx, if_neg hrk]; exact hk
      have hrz : (t.set r (setBal x (sub33 x.2.2 a)))[r]? = some (setBal x (sub33 x.2.2 a)) := by rw [set_get hx, if_pos rfl]
      have hRX := right_add hZ hk5 hkz rfl hr hrz (show (setBal x (sub33 x.2.2 a)).1 = true from hl) a ha (by rw [hsz, sub_add]; exact hR.sum)
      have hX := fun j => set_get (j := j) (y := (true, (r : Int), a)) hkz
      refine ⟨by simp [hR.len], hRX, ?_, .inr ⟨k, rfl, by omega, hk5, by show _ = _; rw [hX, if_pos rfl], hk, ?_⟩⟩
      · rw [sumL_set _ hkz, hsz, wt_dead (x := zEl) rfl, wt_live (x := (true, (r : Int), a)) rfl]
        refine b3_ext ?_ ?_ ?_ <;> simp only [add33, sub33] <;> omega
      · have hy : ((t.set r (setBal x (sub33 x.2.2 a))).set k (true, (r : Int), a))[r]? = some (setBal x (sub33 x.2.2 a)) := by rw [hX, if_neg (Ne.symm hrk)]; exact hrz
        have hkx : ((t.set r (setBal x (sub33 x.2.2 a))).set k (true, (r : Int), a))[k]? = some (true, (r : Int), a) := by rw [hX, if_pos rfl]
        rw [treeDrop_at ((rightB_iff _).2 hRX) hk0 hkx rfl hk5 hy rfl]
        have hy2 : (((t.set r (setBal x (sub33 x.2.2 a))).set k (true, (r : Int), a)).set r (setBal (setBal x (sub33 x.2.2 a)) (add33 (setBal x (sub33 x.2.2 a)).2.2 (true, (r : Int), a).2.2)))[k]? = some (true, (r : Int), a) := by rw [set_get hy, if_neg hrk]; exact hkx
        have es : setBal (setBal x (sub33 x.2.2 a)) (add33 (setBal x (sub33 x.2.2 a)).2.2 (true, (r : Int), a).2.2) = x := by
          show (x.1, x.2.1, add33 (sub33 x.2.2 a) a) = x
          rw [sub_add]
        have hD : dropT ((t.set r (setBal x (sub33 x.2.2 a))).set k (true, (r : Int), a)) k r (true, (r : Int), a) (setBal x (sub33 x.2.2 a)) = t := by
          apply List.ext_getElem?
          intro j
          unfold dropT
          rw [set_get hy2, set_get hy, hX, set_get hx, es]
          by_cases e1 : k = j
          · subst e1; rw [if_pos rfl, hk]
          · rw [if_neg e1, if_neg e1]
            by_cases e2 : r = j
            · subst e2; rw [if_pos rfl, hx]
            · rw [if_neg e2, if_neg e2]
        rw [hD]
        have hm : t.map (relF (k : Int) (r : Int)) = t := by
          apply List.ext_getElem?
          intro j
          rw [List.getElem?_map]
          cases hj : t[j]? with
          | none => rfl
          | some u =>
            have hj5 : j < 5 := by have := (List.getElem?_eq_some_iff.1 hj).1; have := hR.len; omega
            simp only [Option.map_some, Option.some.injEq]
            unfold relF
            split
            · rename_i h
              simp only [Bool.and_eq_true, decide_eq_true_eq] at h
              exfalso
              by_cases hj0 : j = 0
              · subst hj0
                obtain ⟨v, h1, h2, h3⟩ := hR.root
                rw [hj] at h1; cases h1; omega
              · obtain ⟨p9, y9, hp9, he9, hy9, hyl9⟩ := hR.closed j u hj5 hj h.1 hj0
                have : p9 = k := by omega
                subst this
                rw [hk] at hy9; cases hy9; cases hyl9
            · rfl
        rw [hm]
/-! give -/
theorem give_law {t : List El} (hR : Right t) (i j : Int) (a : B3) :
    Right (treeGive t i j a).1 ∧ sumL (treeGive t i j a).1 = sumL t ∧ ((treeGive t i j a).2 = false → (treeGive t i j a).1 = t) := by
  cases h : ((treePay t i a).2 && liveAt t j)
  · rw [treeGive_no h]; exact ⟨hR, rfl, fun _ => rfl⟩
  · rw [treeGive_yes h]
    obtain ⟨h1, h2⟩ := Bool.and_eq_true_iff.1 h
    obtain ⟨hZ, hsz, ha⟩ := pay_right h1
    obtain ⟨b1, b2, b3⟩ := back_yes hZ (j := j) ha (by rw [hsz, sub_add]; exact hR.sum)
    refine ⟨b2, by rw [b3, hsz, sub_add], fun e => ?_⟩
    rw [b1] at e; cases e
/-! above -/
theorem above_last {t : List El} (hR : Right t) : ∀ (f z : Nat) (L : List Int), Way t f z L → z ≠ 0 → ∃ M, L = M ++ [0] ∧ L[0]? = some (parAt t z)
  | 0, z, L, h, h0 => by
    obtain ⟨f', p, x, L', h1, _⟩ := h.next hR h0
    omega
  | f + 1, z, L, h, h0 => by
    obtain ⟨f', p, x, L', h1, h2, h3, h4, h5⟩ := h.next hR h0
    obtain rfl : f = f' := by omega
    subst h4
    by_cases hp : p = 0
    · subst hp
      have := h5.end_
      subst this
      exact ⟨[], rfl, by rw [parAt_nat h2, h3]; rfl⟩
    · obtain ⟨M, hM, _⟩ := above_last hR f p L' h5 hp
      exact ⟨(p : Int) :: M, by rw [hM]; rfl, by rw [parAt_nat h2, h3]; rfl⟩
theorem above_law {t : List El} (hR : Right t) {q : Nat} {x : El} (hq : q < 5) (hx : t[q]? = some x) (hl : x.1 = true) (h0 : q ≠ 0) : ∃ M, treeAbove t q = M ++ [0] ∧ (treeAbove t q)[0]? = some x.2.1 := by
  have hla : liveAt t q = true := by rw [liveAt_nat hx hq, hl]
  rw [treeAbove_yes (by rw [(rightB_iff t).2 hR, hla]; rfl)]
  have := above_last hR 5 q _ (Way.start hR hq hx hl) h0
  rwa [parAt_nat hx] at this

end Go.Proofs.Ytdgkfpcecppfdaa
