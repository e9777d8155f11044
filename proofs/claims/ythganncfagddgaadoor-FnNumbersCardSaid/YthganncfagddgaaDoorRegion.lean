/- A region that draws its order, by an invariant: each operation is walked once, whatever the order. Plain lemmas, no condition on the program. -/
import Derived.Test.YthganncfagddgaaDoorBase
import Derived.RegionTactic
import Derived.Deep.DrawnRows
namespace Go.Proofs.YthganncfagddgaaDoor
set_option linter.unusedSimpArgs false
set_option linter.unusedVariables false
open Go.RowKit

section
variable {P : Program} {ops : Array Oper} {Q : Exit → Act → World → Prop} {md : Region.Mode}

theorem count_set_false : ∀ (l : List Bool) (i : Nat), l[i]? = some false → (l.set i true).count false + 1 = l.count false
  | [], i, h => by simp at h
  | b :: l, 0, h => by
    have e : b = false := by simpa using h
    subst e
    simp
  | b :: l, i + 1, h => by
    have ih := count_set_false l i (by simpa using h)
    simp only [List.set_cons_succ, List.count_cons]
    omega
theorem getD_false_of {l : Array Bool} {i : Nat} (h : l.getD i true = false) : l.toList[i]? = some false := by
  rw [Array.getD_eq_getD_getElem?] at h
  rw [Array.getElem?_toList]
  cases h2 : l[i]? with
  | none => rw [h2] at h; simp at h
  | some b => rw [h2] at h; simp at h; rw [h]
theorem wpAny_inv (J : Array Bool → Act → World → Prop)
    (hstep : ∀ l a w i, J l a w → i ∈ Region.ready md ops l → wpOp P ops Q i (J (l.setIfInBounds i true)) a w)
    (hend : ∀ l a w, J l a w → Region.ready md ops l = [] → Q .normal a w) :
    ∀ (fuel : Nat) (l : Array Bool) (a : Act) (w : World), J l a w → l.toList.count false ≤ fuel → wpAny P md ops Q fuel l a w
  | 0, l, a, w, h, hc => by
    have hr : Region.ready md ops l = [] := by
      rcases h0 : Region.ready md ops l with _ | ⟨i, r⟩
      · rfl
      · have h1 := (mem_ready.1 (h0 ▸ List.mem_cons_self : i ∈ Region.ready md ops l)).1
        have h2 := List.count_pos_iff.2 (List.mem_of_getElem? (getD_false_of h1))
        omega
    exact ⟨hr, hend l a w h hr⟩
  | fuel + 1, l, a, w, h, hc => by
    refine ⟨fun hr => hend l a w h hr, fun i hi => wpOp_mono (fun a' w' h' => wpAny_inv J hstep hend fuel _ a' w' h' ?_) (hstep l a w i h hi)⟩
    have h2 := count_set_false l.toList i (getD_false_of (mem_ready.1 hi).1)
    rw [Array.toList_setIfInBounds]
    omega

/-- what holds of each operation, by its number -/
def EachOp (Pr : Nat → Oper → Prop) : Nat → List Oper → Prop
  | _, [] => True
  | n, o :: r => Pr n o ∧ EachOp Pr (n + 1) r
theorem EachOp.at_ {Pr : Nat → Oper → Prop} : ∀ {l : List Oper} {n : Nat}, EachOp Pr n l → ∀ {i : Nat} {o : Oper}, l[i]? = some o → Pr (n + i) o
  | [], _, _, i, o, h => by simp at h
  | x :: l, n, hl, 0, o, h => by
    have e : x = o := by simpa using h
    subst e
    exact hl.1
  | x :: l, n, hl, i + 1, o, h => by
    have := EachOp.at_ hl.2 (i := i) (o := o) (by simpa using h)
    rwa [show n + 1 + i = n + (i + 1) by omega] at this

theorem EachOp.imp {Pr Pr' : Nat → Oper → Prop} (h : ∀ i o, Pr i o → Pr' i o) : ∀ {l : List Oper} {n : Nat}, EachOp Pr n l → EachOp Pr' n l
  | [], _, _ => trivial
  | _ :: _, _, hl => ⟨h _ _ hl.1, EachOp.imp h hl.2⟩

/-- those that an operation waits for -/
def predsOf (md : Region.Mode) (o : Oper) : List Nat := (o.after.toList.filter fun e => Region.binds md e).map (·.on)
def AllOn (l : Array Bool) : List Nat → Prop
  | [] => True
  | j :: r => l.getD j false = true ∧ AllOn l r
theorem allOn_of {l : Array Bool} : ∀ {r : List Nat}, (∀ j ∈ r, l.getD j false = true) → AllOn l r
  | [], _ => trivial
  | j :: r, h => ⟨h j List.mem_cons_self, allOn_of fun k hk => h k (List.mem_cons_of_mem _ hk)⟩
theorem of_allOn {l : Array Bool} : ∀ {r : List Nat}, AllOn l r → ∀ j ∈ r, l.getD j false = true
  | _ :: _, h, _, hj => by
    rcases List.mem_cons.1 hj with rfl | hj
    · exact h.1
    · exact of_allOn h.2 _ hj

/-- one operation keeps the invariant -/
def StepOf (P : Program) (md : Region.Mode) (Q : Exit → Act → World → Prop) (J : Array Bool → Act → World → Prop) (i : Nat) (o : Oper) : Prop :=
  o.guard = none ∧ ∀ l a w, J l a w → l.getD i true = false → AllOn l (predsOf md o) → ∀ K : Act → World → Prop, (∀ a' w', J (l.setIfInBounds i true) a' w' → K a' w') → Oper.wp P o a w K Q

theorem ready_nil_on {l0 : List Oper} {l : Array Bool} (hr : Region.ready md l0.toArray l = []) (hs : l.size = l0.length) {j : Nat} {o : Oper} (ho : l0[j]? = some o) (hp : AllOn l (predsOf md o)) : l.getD j false = true := by
  have hlt : j < l.size := by rw [hs]; exact (List.getElem?_eq_some_iff.1 ho).1
  cases h : l.getD j true with
  | true => rw [Array.getD_eq_getD_getElem?, Array.getElem?_eq_getElem hlt] at h ⊢; exact h
  | false =>
    have : j ∈ Region.ready md l0.toArray l := mem_ready.2 ⟨h, o, by simpa using ho, fun e he hb => of_allOn hp e.on (by
      unfold predsOf
      exact List.mem_map.2 ⟨e, List.mem_filter.2 ⟨by simpa using he, hb⟩, rfl⟩)⟩
    rw [hr] at this
    cases this

theorem wp_region_inv {id : Nat} {l0 : List Oper} {a : Act} {w : World} (hm : P.follows .mixedOrders = true) (J : Array Bool → Act → World → Prop)
    (hJ0 : J (Array.replicate l0.length false) a w.drew) (hstep : EachOp (StepOf P .any Q J) 0 l0)
    (hend : ∀ l a w, J l a w → (∀ {j : Nat} {o : Oper}, l0[j]? = some o → AllOn l (predsOf .any o) → l.getD j false = true) → Q .normal a w) : (Code.region id l0.toArray true).wp P Q a w := by
  refine wp_region_any hm (wpAny_inv (fun l a w => l.size = l0.length ∧ J l a w) ?_ ?_ _ _ _ _ ⟨by simp, by simpa using hJ0⟩ (by simp))
  · rintro l a w i ⟨hsz, hJ⟩ hi
    obtain ⟨hun, o, ho, hpre⟩ := mem_ready.1 hi
    have ho' : l0[i]? = some o := by simpa using ho
    obtain ⟨hg, hst⟩ := EachOp.at_ hstep ho'
    rw [Nat.zero_add] at hst
    refine wpOp_step ho fun K' hK => ?_
    have hw : Region.wanted o (yielded l0.toArray a.tmps) = true := by simp [Region.wanted, hg]
    rw [if_pos hw]
    refine hst l a w hJ hun (allOn_of fun j hj => ?_) K' fun a' w' h' => hK a' w' ⟨by simpa using hsz, h'⟩
    unfold predsOf at hj
    obtain ⟨e, he, rfl⟩ := List.mem_map.1 hj
    obtain ⟨he, hb⟩ := List.mem_filter.1 he
    exact hpre e (by simpa using he) hb
  · rintro l a w ⟨hsz, hJ⟩ hr
    exact hend l a w hJ fun ho hp => ready_nil_on hr hsz ho hp

theorem on_set_other {l : Array Bool} {i j : Nat} (h : i ≠ j) (hj : (l.setIfInBounds i true).getD j false = true) : l.getD j false = true := by
  rw [Array.getD_eq_getD_getElem?, Array.getElem?_setIfInBounds, if_neg h] at hj
  rw [Array.getD_eq_getD_getElem?]; exact hj
theorem on_keep {l : Array Bool} {i j : Nat} (h : l.getD j false = true) : (l.setIfInBounds i true).getD j false = true := by
  rw [Array.getD_eq_getD_getElem?] at h ⊢
  rw [Array.getElem?_setIfInBounds]
  by_cases hij : i = j
  · subst hij
    rw [if_pos rfl]
    cases h2 : l[i]? with
    | none => rw [h2] at h; simp at h
    | some b => rw [if_pos (Array.getElem?_eq_some_iff.1 h2).1]; rfl
  · rw [if_neg hij]; exact h
theorem blk_set {w : World} {g i : Nat} {t : TypeId} {cs : Array Value} (h : w.heap[g]? = some (.cells cs t (0, 0))) (u : Value) : (w.setCell ⟨g, i, none⟩ u).heap[g]? = some (.cells (cs.setIfInBounds i u) t (0, 0)) := by
  simp [World.setCell, Array.getElem?_modify, h]
theorem blk_alloc {w : World} {g : Nat} {O O' : Obj} (h : w.heap[g]? = some O') : (w.alloc O).heap[g]? = some O' :=
  (Below.heap_alloc w O g (Nat.lt_of_not_le fun hn => by rw [Array.getElem?_eq_none hn] at h; cases h)).trans h
theorem lt_of_blk {w : World} {g : Nat} {O : Obj} (h : w.heap[g]? = some O) : g < w.heap.size := Nat.lt_of_not_le fun hn => by rw [Array.getElem?_eq_none hn] at h; cases h
theorem blk_far {w : World} {g : Nat} {O : Obj} (h : w.heap[g]? = some O) {p : Addr} (hp : g ≠ p.block) (u : Value) : (w.setCell p u).heap[g]? = some O := (Below.heap_setCell w p u g hp).trans h
theorem off_of_on {l : Array Bool} {j : Nat} {p : Prop} (h : l.getD j true = false) (hj : l.getD j false = true) : p := by
  rw [Array.getD_eq_getD_getElem?] at h hj
  cases h2 : l[j]? with
  | none => rw [h2] at h; simp at h
  | some b => rw [h2] at h hj; simp at h hj; rw [h] at hj; cases hj
theorem repl_off {n j : Nat} {p : Prop} (hj : (Array.replicate n false).getD j false = true) : p := by
  rw [Array.getD_eq_getD_getElem?, Array.getElem?_replicate] at hj
  split at hj <;> simp at hj

/-- the frame with some slots written -/
def putAll (a : Act) : List (Nat × Value) → Act
  | [] => a
  | (d, v) :: r => putAll { a with tmps := a.tmps.setIfInBounds d v } r

/-- a goal that the tactics shall not lay open -/
structure Shut (p : Prop) : Prop where
  open_ : p
/-- what holds of each operation, by its number and those that it waits for -/
def EachOpP (Pr : Nat → Oper → List Nat → Prop) : Nat → List Oper → List (List Nat) → Prop
  | n, o :: r, p :: ps => Pr n o p ∧ EachOpP Pr (n + 1) r ps
  | _, _, _ => True
theorem EachOpP.each {Pr : Nat → Oper → List Nat → Prop} : ∀ {l : List Oper} {ps : List (List Nat)} {n : Nat}, l.map (predsOf md) = ps → EachOpP Pr n l ps → EachOp (fun i o => Pr i o (predsOf md o)) n l
  | [], _, _, _, _ => trivial
  | o :: l, [], _, h, _ => by simp at h
  | o :: l, p :: ps, n, h, hl => by
    simp only [List.map_cons, List.cons.injEq] at h
    obtain ⟨rfl, h2⟩ := h
    exact ⟨hl.1, EachOpP.each h2 hl.2⟩
/-- The region by an invariant F on the written slots (a tuple of type U) and the world; ps: what each operation waits for. -/
theorem wp_region_fr {U : Type} {id : Nat} {l0 : List Oper} {a : Act} {w : World} (ps : List (List Nat)) (ds : U → List (Nat × Value)) (u0 : U) (F : Array Bool → U → World → Prop)
    (hm : P.follows .mixedOrders = true) (hps : l0.map (predsOf .any) = ps) (h0 : putAll a (ds u0) = a) (hF : F (Array.replicate l0.length false) u0 w.drew)
    (hstep : EachOpP (fun i o p => o.guard = none ∧ ∀ l u x, F l u x → l.getD i true = false → AllOn l p → ∀ K : Act → World → Prop, (∀ u' x', F (l.setIfInBounds i true) u' x' → K (putAll a (ds u')) x') → Shut (Oper.wp P o (putAll a (ds u)) x K Q)) 0 l0 ps)
    (hend : ∀ l u x, F l u x → (∀ {j : Nat} {p : List Nat}, ps[j]? = some p → AllOn l p → l.getD j false = true) → Shut (Q .normal (putAll a (ds u)) x)) : (Code.region id l0.toArray true).wp P Q a w := by
  refine wp_region_inv hm (fun l a' x => ∃ u, a' = putAll a (ds u) ∧ F l u x) ⟨u0, h0.symm, hF⟩ ?_ ?_
  · refine EachOp.imp (fun i o h => ?_) (EachOpP.each hps hstep)
    refine ⟨h.1, ?_⟩
    rintro l a' x ⟨u, rfl, hu⟩ hun hpre K hK
    exact (h.2 l u x hu hun hpre K fun u' x' h' => hK _ _ ⟨u', rfl, h'⟩).open_
  · rintro l a' x ⟨u, rfl, hu⟩ hon
    refine (hend l u x hu fun {j p} hj hp => ?_).open_
    rw [← hps, List.getElem?_map] at hj
    cases ho : l0[j]? with
    | none => rw [ho] at hj; cases hj
    | some o =>
      rw [ho] at hj
      cases hj
      exact hon ho hp
end

end Go.Proofs.YthganncfagddgaaDoor
