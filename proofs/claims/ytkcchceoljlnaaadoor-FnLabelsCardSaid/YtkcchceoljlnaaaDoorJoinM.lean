/- Joining and meeting labels: plain words; copies of labels. -/
import Derived.Test.YtkcchceoljlnaaaDoorReadLab
import Derived.Maps.AppendAt
namespace Go.Proofs.YtkcchceoljlnaaaDoor
set_option linter.unusedSimpArgs false
set_option linter.unusedVariables false
open Go.RowKit
attribute [local go_sem ↓] Go.wp_at_zero Go.wp_at_succ

def zipL (f : Int → Int → Int) (xs ys : List Int) : List Int := List.zipWith f xs ys
theorem zipL_len (f : Int → Int → Int) {xs ys : List Int} {n : Nat} (h1 : xs.length = n) (h2 : ys.length = n) : (zipL f xs ys).length = n := by simp [zipL, h1, h2]
theorem zipL_at {f : Int → Int → Int} {xs ys : List Int} {k : Nat} {x y : Int} (h1 : xs[k]? = some x) (h2 : ys[k]? = some y) : (zipL f xs ys)[k]? = some (f x y) := by
  simp [zipL, List.getElem?_zipWith, h1, h2]
theorem zipL_snoc {f : Int → Int → Int} {xs ys : List Int} {k : Nat} {x y : Int} (h1 : xs[k]? = some x) (h2 : ys[k]? = some y) : ((zipL f xs ys).take (k + 1)).map (Value.int .i64) = ((zipL f xs ys).take k).map (Value.int .i64) ++ [.int .i64 (f x y)] := by
  rw [List.take_add_one, zipL_at h1 h2, List.map_append]; rfl
/-- after k rounds: the first k are joined -/
def curL (f : Int → Int → Int) (xs ys : List Int) (k : Nat) : List Int := (zipL f xs ys).take k ++ xs.drop k
theorem curL_0 (f : Int → Int → Int) (xs ys : List Int) : curL f xs ys 0 = xs := by simp [curL]
theorem curL_n (f : Int → Int → Int) {xs ys : List Int} {n : Nat} (h1 : xs.length = n) (h2 : ys.length = n) : curL f xs ys n = zipL f xs ys := by
  have := zipL_len f h1 h2
  unfold curL
  rw [List.take_of_length_le (by omega), List.drop_eq_nil_of_le (by omega), List.append_nil]
theorem curL_at {f : Int → Int → Int} {xs ys : List Int} {k : Nat} {x y : Int} (h1 : xs[k]? = some x) (h2 : ys[k]? = some y) : (curL f xs ys k)[k]? = some x := by
  have hl := (List.getElem?_eq_some_iff.1 (zipL_at (f := f) h1 h2)).1
  unfold curL
  rw [List.getElem?_append_right (by simp; omega)]
  simp [Nat.min_eq_left (Nat.le_of_lt hl), h1]
theorem curL_set {f : Int → Int → Int} {xs ys : List Int} {k : Nat} {x y : Int} (h1 : xs[k]? = some x) (h2 : ys[k]? = some y) : (curL f xs ys k).set k (f x y) = curL f xs ys (k + 1) := by
  have hl := (List.getElem?_eq_some_iff.1 (zipL_at (f := f) h1 h2)).1
  have hlx := (List.getElem?_eq_some_iff.1 h1).1
  have hd : xs.drop k = x :: xs.drop (k + 1) := by rw [List.drop_eq_getElem_cons hlx]; congr 1; exact (List.getElem?_eq_some_iff.1 h1).2
  unfold curL
  rw [List.set_append_right _ _ (by simp; omega), hd, List.take_add_one, zipL_at h1 h2]
  simp [Nat.min_eq_left (Nat.le_of_lt hl)]
def joinR (f : Int → Int → Int) (xs ys : List Int) : List Int := if labB xs && labB ys then zipL f xs ys else []
theorem joinR_no1 {f : Int → Int → Int} {xs ys : List Int} (h : labB xs = false) : joinR f xs ys = [] := by simp [joinR, h]
theorem joinR_no2 {f : Int → Int → Int} {xs ys : List Int} (h : labB ys = false) : joinR f xs ys = [] := by simp [joinR, h]
theorem joinR_yes {f : Int → Int → Int} {xs ys : List Int} (h1 : labB xs = true) (h2 : labB ys = true) : joinR f xs ys = zipL f xs ys := by simp [joinR, h1, h2]
theorem labB_len4 {xs : List Int} (h : labB xs = true) : xs.length = 4 := by
  simp only [labB, Bool.and_eq_true, decide_eq_true_eq] at h; exact h.1
theorem joinR_len (f : Int → Int → Int) (xs ys : List Int) : (joinR f xs ys).length ≤ 4 := by
  unfold joinR
  split
  · rename_i h
    have h := Bool.and_eq_true_iff.1 h
    rw [zipL_len f (labB_len4 h.1) (labB_len4 h.2)]; omega
  · simp
/-- block g holds the integers xs (and maybe more behind them) -/
def OBI (w : World) (g : Nat) (xs : List Int) : Prop := ∃ full : Array Value, w.heap[g]? = some (.cells full 3 (0, 0)) ∧ ∀ (k : Nat) (v : Value), (xs.map (Value.int .i64))[k]? = some v → full[k]? = some v
theorem OBI.own {w : World} {g B : Nat} {xs : List Int} (h : OBI w g xs) (hB : B ≤ g) : Own w B 3 (some ⟨g, 0, none⟩) (xs.map (Value.int .i64)) := by
  obtain ⟨full, hh, hp⟩ := h
  exact .inr ⟨g, full, rfl, hB, hh, hp⟩
theorem own_obi {w : World} {B : Nat} {A : Option Addr} {xs : List Int} (h : Own w B 3 A (xs.map (Value.int .i64))) (h0 : xs ≠ []) : ∃ g, A = some ⟨g, 0, none⟩ ∧ B ≤ g ∧ OBI w g xs := by
  rcases h with h | ⟨g, full, rfl, hB, hh, hp⟩
  · simp at h; exact absurd h h0
  · exact ⟨g, rfl, hB, full, hh, hp⟩
theorem OBI.at_ {w : World} {g : Nat} {xs : List Int} (h : OBI w g xs) {k : Nat} {x : Int} (hk : xs[k]? = some x) : w.cell? ⟨g, k, none⟩ = some (.int .i64 x) := by
  obtain ⟨full, hh, hp⟩ := h
  rw [(blkcell hh).1]; exact hp _ _ (by simp [hk])
theorem OBI.fro {w : World} {g : Nat} {xs : List Int} (h : OBI w g xs) : ∀ j, w.frozen? ⟨g, j, none⟩ = false := by
  obtain ⟨full, hh, _⟩ := h
  exact (blkcell hh).2
theorem OBI.lt {w : World} {g : Nat} {xs : List Int} (h : OBI w g xs) : g < w.heap.size := by
  obtain ⟨full, hh, _⟩ := h
  exact lt_of_blk hh
theorem OBI.below {w w' : World} {g : Nat} {xs : List Int} (h : OBI w g xs) (hb : Below w.heap.size w w') : OBI w' g xs := by
  obtain ⟨full, hh, hp⟩ := h
  exact ⟨full, keepblk hb hh, hp⟩
theorem OBI.drewN {w : World} {g : Nat} {xs : List Int} (h : OBI w g xs) (n : Nat) : OBI (w.drewN n) g xs := h
theorem OBI.drew {w : World} {g : Nat} {xs : List Int} (h : OBI w g xs) : OBI w.drew g xs := h
theorem OBI.alloc {w : World} {g : Nat} {xs : List Int} (h : OBI w g xs) (o : Obj) : OBI (w.alloc o) g xs := by
  obtain ⟨full, hh, hp⟩ := h
  exact ⟨full, blk_alloc hh, hp⟩
theorem OBI.far {w : World} {g : Nat} {xs : List Int} (h : OBI w g xs) {p : Addr} (hp : g ≠ p.block) (u : Value) : OBI (w.setCell p u) g xs := by
  obtain ⟨full, hh, h2⟩ := h
  exact ⟨full, blk_far hh hp u, h2⟩
theorem OBI.set_ {w : World} {g : Nat} {xs : List Int} (h : OBI w g xs) (k : Nat) (x : Int) : OBI (w.setCell ⟨g, k, none⟩ (.int .i64 x)) g (xs.set k x) := by
  obtain ⟨full, hh, hp⟩ := h
  refine ⟨_, blk_set (i := k) hh (.int .i64 x), fun i v hi => ?_⟩
  rw [List.map_set, List.getElem?_set] at hi
  rw [Array.getElem?_setIfInBounds]
  by_cases hik : k = i
  · rw [if_pos hik] at hi ⊢
    split at hi
    · rename_i hl
      have h2 := hp k _ (List.getElem?_eq_getElem hl)
      rw [if_pos (Array.getElem?_eq_some_iff.1 h2).1]; exact hi
    · cases hi
  · rw [if_neg hik] at hi ⊢; exact hp i v hi
theorem ints_flat {w : World} {b off : Nat} {xs : List Int} (h : ∀ k z, xs[k]? = some z → w.cell? ⟨b, off + k, none⟩ = some (.int .i64 z)) :
    ∀ (j : Nat) (u : Value), (xs.map (Value.int .i64))[j]? = some u → w.cell? ((⟨b, off, none⟩ : Addr).add j) = some u := by
  intro j u hj
  have hadd : (⟨b, off, none⟩ : Addr).add j = ⟨b, off + j, none⟩ := by
    unfold Addr.add; split
    · rename_i h0; subst h0; rfl
    · rfl
  rw [hadd]
  rw [List.getElem?_map] at hj
  obtain ⟨z, hz, rfl⟩ := Option.map_eq_some_iff.1 hj
  exact h j z hz
theorem blk_app {x w1 : World} {base : Nat} {e : TypeId} {v : Value} {n : Nat} {xs : List Value} (hown : x.ownsRow base e 1 v n xs) (hg : x.grownBy w1 v.ownBlock) {b : Nat} {O : Obj} (h : x.heap[b]? = some O) (hb : b < base) : w1.heap[b]? = some O :=
  (hg.block b (lt_of_blk h) (own_ne hown hb)).trans h
theorem cell_app {x w1 : World} {base : Nat} {e : TypeId} {v : Value} {n : Nat} {xs : List Value} (hown : x.ownsRow base e 1 v n xs) (hg : x.grownBy w1 v.ownBlock) {p : Addr} {u : Value} (h : x.cell? p = some u) (hb : p.block < base) : w1.cell? p = some u :=
  (World.cell?_of_block (hg.block p.block (lt_of_cell h) (own_ne hown hb))).trans h
theorem below_app {w x w1 : World} {base : Nat} {e : TypeId} {v : Value} {n : Nat} {xs : List Value} {B : Nat} (hown : x.ownsRow base e 1 v n xs) (hg : x.grownBy w1 v.ownBlock) (h : Below B w x) (hb : B ≤ base) (hw : B ≤ x.heap.size) : Below B w w1 :=
  h.grown hg hw (fun g hg => by have := (hown.lt g hg).1; omega)
theorem copy_runI (w : World) (A : Option Addr) (n c : Nat) (xs : List Int) (hx : Ints w A xs) (hn : xs.length = n) (hnb : n ≤ 1099511627776) :
    ∃ A' c' w1, (Builtin.append_ #[22, 22] 22 #[.slice (some ⟨w.heap.size, 0, none⟩) 0 0, .slice A n c]).run Tryd.prog (w.alloc (.cells #[] 3)) = .ok (.slice A' n c') w1 ∧ Own w1 w.heap.size 3 A' (xs.map (Value.int .i64)) ∧ Below w.heap.size w w1 := by
  obtain ⟨i0, hi, hz0, hz1, hz2⟩ := info_parts int_info
  have hown := ownsRow_made w w.heap.size 3 (Nat.le_refl _)
  rcases A with _ | ad
  · have hxs : xs = [] := by
      rcases hx with h | ⟨b, off, h, _⟩
      · exact h
      · cases h
    subst hxs
    simp at hn
    subst hn
    refine ⟨some ⟨w.heap.size, 0, none⟩, 0, w.alloc (.cells #[] 3), ?_, .inl rfl, (Below.refl _ _).alloc (Nat.le_refl _) _⟩
    simp [Builtin.append_, run_underlying Tryd.underlying22, sizeOf, typeInfo, hi, Builtin.lenOf, Builtin.firstCells, storeCells]
  · have hcells : ∀ j u, (xs.map (Value.int .i64))[j]? = some u → (w.alloc (.cells #[] 3)).cell? (ad.add j) = some u := by
      rcases hx with rfl | ⟨b, off, h, hc⟩
      · intro j u hj; simp at hj
      · injection h with h
        subst h
        intro j u hj
        exact cell_alloc_ (ints_flat hc j u hj)
    obtain ⟨v', w', hrun, h2, h3, h4, h5⟩ := run_append_own_at (P := Tryd.prog) (w.alloc (.cells #[] 3)) w.heap.size 22 22 3 i0 (.int .i64 0) 1 8 Tryd.underlying22 hi hz0 hz1 hz2 rfl (by decide) _ 0 [] hown ad n c (xs.map (Value.int .i64)) (by simp [hn]) hcells (by intro u hu; obtain ⟨z, _, rfl⟩ := List.mem_map.1 hu; rfl) (by unfold maxLen; omega) (by omega) (by simp)
    have hw : Below w.heap.size w w' := ((Below.refl _ _).alloc (Nat.le_refl _) _).grown h3 (by simp) (fun g hg => by simp [Value.ownBlock] at hg; omega)
    simp only [Nat.zero_add, List.nil_append] at h2
    obtain ⟨A', c', rfl, ho⟩ := own_of_row h2
    exact ⟨A', c', w', hrun, ho, hw⟩
theorem wpList_append_eq {P : Program} {w : World} {ops : Array Oper} {rest : List Oper} {o : Oper} {a : Act} {Q : Exit → Act → World → Prop} (hgd : o.guard = none) (s x : Operand) (t : TypeId)
    (ho : o.op = .call { callee := .builtin .append, args := #[s, x], argTypes := #[t, t] }) (v x' v' : Value) (w' : World) (hs : a.eval s = v) (hx : a.eval x = x')
    (hrun : (Builtin.append_ #[t, t] o.type #[v, x']).run P w = .ok v' w') (h : wpList P ops Q rest (a.put o.dst v') w') : wpList P ops Q (o :: rest) a w :=
  wpList_plain hgd fun K hK => by
    unfold Oper.wp execOp
    simp only [ho, resolve, invoke, builtin, Sem.run_bind, Sem.run_pure, Result.andThen_ok, List.map_toArray, List.map_cons, List.map_nil, hs, hx, hrun]
    exact hK _ _ h
set_option maxHeartbeats 1600000 in
theorem copyInts_any (A : Option Addr) (n c : Nat) (xs : List Int) (w : World) (hx : Ints w A xs) (hn : xs.length = n) (hnb : n ≤ 1099511627776) :
    Calls Tryd.prog 38 #[.slice A n c] w fun e w' => ∃ A' c', e = .returned (.slice A' n c') ∧ Own w' w.heap.size 3 A' (xs.map (Value.int .i64)) ∧ Below w.heap.size w w' := by
  obtain ⟨A', c', w1, hrun, hown, hB⟩ := copy_runI w A n c xs hx hn hnb
  clear hx hn
  have HO := Lib.hid hown
  have HR := Lib.hid hrun
  clear hown hrun
  go_enter Tryd.func38, Tryd.ntmps38
  go_wp2_with (at_builtin; refine wpList_append_eq rfl _ _ _ rfl _ _ _ _ (by rfl) (by rfl) HR.out ?_)
  go_ret
  exact ⟨_, _, rfl, HO.out, hB⟩
theorem Own.more {w : World} {B B' : Nat} {t : TypeId} {A : Option Addr} {cs : List Value} (h : Own w B t A cs) (hB : B' ≤ B) : Own w B' t A cs := by
  rcases h with h | ⟨g, full, rfl, h1, hh, hp⟩
  · exact .inl h
  · exact .inr ⟨g, full, rfl, Nat.le_trans hB h1, hh, hp⟩
theorem Own.setFar {w : World} {B : Nat} {t : TypeId} {A : Option Addr} {cs : List Value} (h : Own w B t A cs) {p : Addr} (hp : p.block < B) (u : Value) : Own (w.setCell p u) B t A cs := by
  rcases h with h | ⟨g, full, rfl, h1, hh, h2⟩
  · exact .inl h
  · exact .inr ⟨g, full, rfl, h1, blk_far hh (by omega) u, h2⟩
set_option maxHeartbeats 1600000 in
theorem copyLabel_any (A : Option Addr) (n c : Nat) (xs : List Int) (w : World) (hx : Ints w A xs) (hn : xs.length = n) (hnb : n ≤ 1099511627776) :
    Calls Tryd.prog 29 #[lab A n c] w fun e w' => ∃ A' c', e = .returned (lab A' n c') ∧ Own w' w.heap.size 3 A' (xs.map (Value.int .i64)) ∧ Below w.heap.size w w' := by
  have C := Lib.hid (fun w' h => copyInts_any A n c xs w' h hn hnb)
  have HX := Lib.hid hx
  clear hx hn
  go_enter Tryd.func29, Tryd.ntmps29
  go_wp2_with fail
  refine (C.out _ ((HX.out.alloc _).alloc _)).mono ?_
  rintro e w2 ⟨A', c', rfl, ho, hb⟩
  have HO := Lib.hid (ho.more (B' := w.heap.size + 2) (by simp))
  have hbx := keepblk hb (heap_alloc_new (w.alloc _) _)
  simp only [World.size_alloc] at hbx
  obtain ⟨kb, fb⟩ := blkcell hbx
  have hl := lt_of_blk hbx
  have hB := Below.trans (((Below.refl w.heap.size w).alloc (Nat.le_refl _) _).alloc (by simp) _) (hb.mono (by simp; omega))
  clear ho hb hbx
  go_wp2
  refine bodyPost_ret (v := lab A' n c') (by simp [results, Tryd.results29, go_sem, *]) rfl ⟨A', c', rfl, (HO.out.setFar (p := ⟨w.heap.size + 1, 0, none⟩) (by show w.heap.size + 1 < w.heap.size + 2; omega) _).more (by omega), hB.setCell (by show w.heap.size ≤ w.heap.size + 1; omega) _⟩

end Go.Proofs.YtkcchceoljlnaaaDoor
