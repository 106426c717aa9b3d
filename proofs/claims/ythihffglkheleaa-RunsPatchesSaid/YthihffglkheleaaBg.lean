/- Own rows whose elements have K cells each (for every seat): their reading, and append of one element. -/
import Derived.Test.YthihffglkheleaaBe
import Derived.Deep.MidRow
set_option linter.unusedVariables false
set_option linter.unusedSimpArgs false
namespace Go.Proofs.Ythihffglkheleaa
open Go.RowKit

/-- The row v, of the call's own from block lo on, is xs; each element has K cells. -/
def OwnC {α : Type} (K : Nat) (enc : α → List Value) (e : TypeId) (lo : Nat) (w : World) (v : Value) (xs : List α) : Prop :=
  w.ownsRow lo e K v xs.length (xs.flatMap enc) ∧ ∀ x ∈ xs, (enc x).length = K
theorem flatMap_get {α : Type} (K : Nat) (enc : α → List Value) : ∀ (xs : List α), (∀ x ∈ xs, (enc x).length = K) → ∀ (i : Nat) (hi : i < xs.length) (j : Nat), j < K → (xs.flatMap enc)[i * K + j]? = (enc xs[i])[j]?
  | [], _, i, hi, _, _ => by simp at hi
  | x :: xs, h, 0, _, j, hj => by
    rw [List.flatMap_cons, Nat.zero_mul, Nat.zero_add, List.getElem?_append_left (by rw [h x (by simp)]; exact hj)]
    rfl
  | x :: xs, h, i + 1, hi, j, hj => by
    have hx := h x (by simp)
    rw [List.flatMap_cons, List.getElem?_append_right (by rw [hx, Nat.add_mul]; omega), hx, show (i + 1) * K + j - K = i * K + j by rw [Nat.add_mul]; omega]
    exact flatMap_get K enc xs (fun y hy => h y (by simp [hy])) i (by simpa using hi) j hj
section
variable {α : Type} {K : Nat} {enc : α → List Value} {e : TypeId} {lo hi : Nat} {w w' : World} {v : Value} {xs : List α}
theorem OwnC.nil (K : Nat) (enc : α → List Value) (e : TypeId) (lo : Nat) (w : World) : OwnC K enc e lo w (.slice none 0 0) [] := ⟨World.ownsRow_nil w lo e K, by simp⟩
theorem OwnC.form (h : OwnC K enc e lo w v xs) : ∃ A c, v = .slice A xs.length c ∧ xs.length ≤ c ∧ c ≤ 9223372036854775807 := by
  rcases h.1.2 with ⟨rfl, h2⟩ | ⟨g, cap, cur, rfl, _, _, h3, h4, _⟩
  · exact ⟨none, 0, by rw [h2], by omega, by omega⟩
  · exact ⟨_, cap, rfl, h3, by simpa [maxLen] using h4⟩
theorem OwnC.lt (h : OwnC K enc e lo w v xs) : ∀ k, v.ownBlock = some k → lo ≤ k ∧ k < w.heap.size := World.ownsRow.lt h.1
theorem OwnC.chg {M : Nat → Prop} (h : OwnC K enc e lo w v xs) (hc : Chg M w w') (hm : ∀ k, v.ownBlock = some k → ¬ M k) : OwnC K enc e lo w' v xs := by
  have hl := h.lt
  obtain ⟨⟨h1, h2⟩, h0⟩ := h
  refine ⟨⟨h1, ?_⟩, h0⟩
  rcases h2 with h2 | ⟨g, cap, cur, rfl, hb, hg, h3⟩
  · exact .inl h2
  · exact .inr ⟨g, cap, cur, rfl, hb, (hc.block g (hl g rfl).2 (hm g rfl)).trans hg, h3⟩
theorem OwnC.new (h : OwnC K enc e lo w v xs) (hc : New w w') : OwnC K enc e lo w' v xs := h.chg (hc.chg (fun _ => False)) (fun _ _ h => h)
theorem OwnC.mono {lo' : Nat} (h : OwnC K enc e lo w v xs) (hl : lo' ≤ lo) : OwnC K enc e lo' w v xs := by
  obtain ⟨⟨h1, h2⟩, h0⟩ := h
  refine ⟨⟨h1, ?_⟩, h0⟩
  rcases h2 with h2 | ⟨g, cap, cur, rfl, hb, hg, h3⟩
  · exact .inl h2
  · exact .inr ⟨g, cap, cur, rfl, by omega, hg, h3⟩
theorem OwnC.rdC (h : OwnC K enc e lo w v xs) (hh : w.heap.size ≤ hi) : RdC K enc lo hi w v xs := by
  obtain ⟨h12, h0⟩ := h
  obtain ⟨h1, h2⟩ := id h12
  rcases h2 with ⟨rfl, h2⟩ | ⟨g, cap, cur, rfl, hb, hg, hc, hm, hs, ht⟩
  · have hx0 : xs = [] := List.eq_nil_of_length_eq_zero h2
    subst hx0
    exact ⟨none, 0, rfl, by simp, by simp, .inl rfl⟩
  · have hlt := (Array.getElem?_eq_some_iff.1 hg).1
    refine ⟨_, cap, rfl, hc, by simpa [maxLen] using hm, .inr ⟨g, 0, rfl, hb, by omega, hlt, fun i hi j hj => ?_⟩⟩
    have hg2 := flatMap_get K enc xs h0 i hi j hj
    have hj2 : j < (enc xs[i]).length := by rw [h0 _ (List.getElem_mem hi)]; exact hj
    rw [List.getElem?_eq_getElem hj2] at hg2 ⊢
    have := h12.cells (g := g) rfl (i * K + j) _ hg2
    rw [addr_plain] at this
    rw [Nat.zero_add] at this ⊢
    exact this
end
section
variable {α : Type} {K : Nat} {enc : α → List Value} {t e : TypeId} {lo : Nat} {w w' : World} {v : Value} {xs : List α} {P : Program}
theorem appendC1_run {z : Value} {bytes : Nat} (ty : TypeId) (ht : P.underlying t = some (.slice e)) (hinfo : (P.info? e).map (fun i => (i.zero, i.size, i.bytes)) = some (some z, K, bytes)) (hzs : z.cells.size = K) (hK : 0 < K)
    (hv : OwnC K enc e lo w v xs) (y : α) (hy : (enc y).length = K) (h1 : ∀ u ∈ enc y, u.oneCell' = true) (hl : (xs.length + 1) * bytes ≤ 140737488355328) (hm : xs.length + 1 ≤ 9223372036854775807) (hlo : lo ≤ w.heap.size) :
    ∃ A' c' w', (Builtin.append_ #[t, t] ty #[v, .slice (some ⟨w.heap.size, 0, none⟩) 1 1]).run P (w.alloc (.cells (enc y).toArray e)) = .ok (.slice A' (xs.length + 1) c') w' ∧ OwnC K enc e lo w' (.slice A' (xs.length + 1) c') (xs ++ [y]) ∧ w.grownBy w' v.ownBlock ∧
      ((Value.slice A' (xs.length + 1) c').ownBlock = v.ownBlock ∨ (Value.slice A' (xs.length + 1) c').ownBlock = some (w.heap.size + 1)) := by
  obtain ⟨i0, hi, hzz⟩ := Option.map_eq_some_iff.1 hinfo
  simp only [Prod.mk.injEq] at hzz
  obtain ⟨hz0, hz1, hz2⟩ := hzz
  have hN : New w (w.alloc (.cells (enc y).toArray e)) := new_alloc _ _
  obtain ⟨v', w', hr, h2, h3, _, h5⟩ := run_append_own_at (P := P) (w.alloc (.cells (enc y).toArray e)) lo t ty e i0 z K bytes ht hi hz0 hz1 hz2 hzs hK v xs.length (xs.flatMap enc) (hv.new hN).1 ⟨w.heap.size, 0, none⟩ 1 1 (enc y) (by omega)
    (fun j u hu => by
      rw [addr_plain, Nat.zero_add]
      have := heap_alloc_new w (.cells (enc y).toArray e)
      simp only [World.cell?, this]
      simpa using hu) h1 (by simpa [maxLen] using hm) hl (by simp; omega)
  have hO : OwnC K enc e lo w' v' (xs ++ [y]) := ⟨by rw [List.length_append, List.flatMap_append]; simpa using h2, fun x hx => by
    simp at hx
    rcases hx with hx | rfl
    · exact hv.2 x hx
    · exact hy⟩
  obtain ⟨A', c', rfl, _, _⟩ := hO.form
  rw [List.length_append, List.length_singleton] at hr hO h5
  refine ⟨A', c', w', hr, hO, World.grownBy.trans (World.grownBy_alloc w _ _) h3, ?_⟩
  rw [World.size_alloc] at h5
  exact h5
variable {ops : Array Oper} {rest : List Oper} {o : Oper} {a : Act} {Q : Exit → Act → World → Prop} {KK : Act → World → Prop}
/-- at the operation: append(v, y), y laid in a block of its own -/
theorem wp_appendC1 {z : Value} {bytes : Nat} (s x : Operand) (ho : o.op = .call { callee := .builtin .append, args := #[s, x], argTypes := #[t, t] }) (ht : P.underlying t = some (.slice e)) (hinfo : (P.info? e).map (fun i => (i.zero, i.size, i.bytes)) = some (some z, K, bytes)) (hzs : z.cells.size = K) (hK : 0 < K)
    (hs : a.eval s = v) (hx : a.eval x = .slice (some ⟨w.heap.size, 0, none⟩) 1 1)
    (hv : OwnC K enc e lo w v xs) (y : α) (hy : (enc y).length = K) (h1 : ∀ u ∈ enc y, u.oneCell' = true) (hl : (xs.length + 1) * bytes ≤ 140737488355328) (hm : xs.length + 1 ≤ 9223372036854775807) (hlo : lo ≤ w.heap.size)
    (h : ∀ A' c' w', OwnC K enc e lo w' (.slice A' (xs.length + 1) c') (xs ++ [y]) → w.grownBy w' v.ownBlock → ((Value.slice A' (xs.length + 1) c').ownBlock = v.ownBlock ∨ (Value.slice A' (xs.length + 1) c').ownBlock = some (w.heap.size + 1)) → KK (a.put o.dst (.slice A' (xs.length + 1) c')) w') :
    o.wp P a (w.alloc (.cells (enc y).toArray e)) KK Q := by
  obtain ⟨A', c', w', hr, h2, h3, h5⟩ := appendC1_run (P := P) o.type ht hinfo hzs hK hv y hy h1 hl hm hlo
  unfold Oper.wp execOp
  simp only [ho, resolve, invoke, builtin, Sem.run_bind, Sem.run_pure, Result.andThen_ok, List.map_toArray, List.map_cons, List.map_nil, hs, hx, hr]
  exact h A' c' w' h2 h3 h5
theorem wpl_appendC1 {z : Value} {bytes : Nat} (hgd : o.guard = none) (s x : Operand) (ho : o.op = .call { callee := .builtin .append, args := #[s, x], argTypes := #[t, t] }) (ht : P.underlying t = some (.slice e)) (hinfo : (P.info? e).map (fun i => (i.zero, i.size, i.bytes)) = some (some z, K, bytes)) (hzs : z.cells.size = K) (hK : 0 < K)
    (hs : a.eval s = v) (hx : a.eval x = .slice (some ⟨w.heap.size, 0, none⟩) 1 1)
    (hv : OwnC K enc e lo w v xs) (y : α) (hy : (enc y).length = K) (h1 : ∀ u ∈ enc y, u.oneCell' = true) (hl : (xs.length + 1) * bytes ≤ 140737488355328) (hm : xs.length + 1 ≤ 9223372036854775807) (hlo : lo ≤ w.heap.size)
    (h : ∀ A' c' w', OwnC K enc e lo w' (.slice A' (xs.length + 1) c') (xs ++ [y]) → w.grownBy w' v.ownBlock → ((Value.slice A' (xs.length + 1) c').ownBlock = v.ownBlock ∨ (Value.slice A' (xs.length + 1) c').ownBlock = some (w.heap.size + 1)) → wpList P ops Q rest (a.put o.dst (.slice A' (xs.length + 1) c')) w') :
    wpList P ops Q (o :: rest) a (w.alloc (.cells (enc y).toArray e)) :=
  wpList_plain hgd fun KK hKK => wp_appendC1 s x ho ht hinfo hzs hK hs hx hv y hy h1 hl hm hlo fun A' c' w' h2 h3 h5 => hKK _ _ (h A' c' w' h2 h3 h5)
end
theorem foldl_fill (l : List Value) : ∀ (k : Nat) (init : Array Value), init.size = k + l.length → (l.zipIdx k).foldl (fun cs (x : Value × Nat) => cs.setIfInBounds (0 + x.2) x.1) init = (init.toList.take k ++ l).toArray := by
  induction l with
  | nil =>
    intro k init h
    simp only [List.zipIdx_nil, List.foldl_nil, List.append_nil]
    rw [List.take_of_length_le (by simp at h ⊢; omega)]
  | cons v l ih =>
    intro k init h
    simp only [List.zipIdx_cons, List.foldl_cons, Nat.zero_add] at ih ⊢
    simp only [List.length_cons] at h
    rw [ih (k + 1) (init.setIfInBounds k v) (by simp; omega)]
    congr 1
    rw [Array.toList_setIfInBounds, List.take_add_one, List.getElem?_set_self (by simp; omega), List.take_set_of_le (Nat.le_refl _)]
    simp
/-- a slice of one element of K cells is built -/
theorem buildSlice1_run {P : Program} {K : Nat} {t e : TypeId} {z : Value} (ht : P.underlying t = some (.slice e)) (hinfo : (P.info? e).map (fun i => (i.zero, i.size)) = some (some z, K)) (hK : K ≤ 65536) (hK0 : 0 < K) (cs : List Value) (hl : cs.length = K) (v : Value) (hv : v.cells = cs.toArray) :
    ∀ W, (Instr.buildSlice t 1 #[(0, v)]).run P W = .ok (.slice (some ⟨W.heap.size, 0, none⟩) 1 1) (W.alloc (.cells cs.toArray e)) := by
  intro W
  obtain ⟨i0, hi, hzz⟩ := Option.map_eq_some_iff.1 hinfo
  simp only [Prod.mk.injEq] at hzz
  obtain ⟨hz0, hs⟩ := hzz
  have hs2 : (sizeOf e).run P W = .ok K W := by simp [sizeOf, typeInfo, hi, hs]
  have hz2 : (zeroValue e).run P W = .ok z W := by simp [zeroValue, typeInfo, hi, hz0]
  have hf : ∀ init : Array Value, init.size = K → Array.foldl (fun cs (x : Value × Nat) => cs.setIfInBounds (0 + x.2) x.1) init cs.toArray.zipIdx = cs.toArray := fun init h => by
    have := foldl_fill cs 0 init (by omega)
    simp only [List.take_zero, List.nil_append] at this
    rw [← Array.foldl_toList, Array.toList_zipIdx]
    exact this
  have h0 : ¬ (2 ^ 24 < K) := by omega
  have h1 : ¬ (K = 0) := by omega
  unfold Instr.buildSlice
  simp only [Sem.run_bind, run_underlying ht, Result.andThen_ok, hs2, h0, h1, if_false, hz2, Sem.run_pure, Instr.fill, hv, Nat.zero_mul, List.size_toArray, hl, ne_eq, not_true_eq_false, decide_false, Bool.false_or, Array.size_map, Array.size_range, Nat.zero_add, Nat.one_mul, gt_iff_lt, Nat.lt_irrefl, Bool.false_eq_true]
  have := hf (Array.map (fun x => (z.cells[x % z.cells.size]!)) (Array.range K)) (by simp)
  simp only [Nat.zero_add] at this
  rw [this]
  simp [newRow]
theorem foldl_fillAt (off : Nat) (l : List Value) : ∀ (k : Nat) (init : Array Value), off + k + l.length ≤ init.size → (l.zipIdx k).foldl (fun cs (x : Value × Nat) => cs.setIfInBounds (off + x.2) x.1) init = (init.toList.take (off + k) ++ l ++ init.toList.drop (off + k + l.length)).toArray := by
  induction l with
  | nil =>
    intro k init h
    simp
  | cons v l ih =>
    intro k init h
    simp only [List.zipIdx_cons, List.foldl_cons] at ih ⊢
    simp only [List.length_cons] at h
    rw [ih (k + 1) (init.setIfInBounds (off + k) v) (by simp; omega)]
    congr 1
    have hd : (init.setIfInBounds (off + k) v).toList.drop (off + (k + 1) + l.length) = init.toList.drop (off + k + (l.length + 1)) := by
      rw [Array.toList_setIfInBounds, List.drop_set_of_lt (by omega)]
      congr 1
      omega
    rw [hd, Array.toList_setIfInBounds, show off + (k + 1) = (off + k) + 1 by omega, List.take_add_one, List.getElem?_set_self (by simp; omega), List.take_set_of_le (Nat.le_refl _)]
    simp
/-- a slice of two elements of K cells is built -/
theorem buildSlice2_run {P : Program} {K : Nat} {t e : TypeId} {z : Value} (ht : P.underlying t = some (.slice e)) (hinfo : (P.info? e).map (fun i => (i.zero, i.size)) = some (some z, K)) (hK : K ≤ 65536) (hK0 : 0 < K) (cs ds : List Value) (hl : cs.length = K) (hl2 : ds.length = K) (v u : Value) (hv : v.cells = cs.toArray) (hu : u.cells = ds.toArray) :
    ∀ W, (Instr.buildSlice t 2 #[(0, v), (1, u)]).run P W = .ok (.slice (some ⟨W.heap.size, 0, none⟩) 2 2) (W.alloc (.cells (cs ++ ds).toArray e)) := by
  intro W
  obtain ⟨i0, hi, hzz⟩ := Option.map_eq_some_iff.1 hinfo
  simp only [Prod.mk.injEq] at hzz
  obtain ⟨hz0, hs⟩ := hzz
  have hs2 : (sizeOf e).run P W = .ok K W := by simp [sizeOf, typeInfo, hi, hs]
  have hz2 : (zeroValue e).run P W = .ok z W := by simp [zeroValue, typeInfo, hi, hz0]
  have hf : ∀ (off : Nat) (l : List Value) (init : Array Value), off + l.length ≤ init.size → Array.foldl (fun cs (x : Value × Nat) => cs.setIfInBounds (off + x.2) x.1) init l.toArray.zipIdx = (init.toList.take off ++ l ++ init.toList.drop (off + l.length)).toArray := fun off l init h => by
    have := foldl_fillAt off l 0 init (by omega)
    rw [← Array.foldl_toList, Array.toList_zipIdx]
    exact this
  have h0 : ¬ (2 ^ 24 < 2 * K) := by omega
  have h1 : ¬ (2 * K = 0) := by omega
  have h2 : ¬ (2 * K < K) := by omega
  have h3 : ¬ (2 * K < K + K) := by omega
  unfold Instr.buildSlice
  simp only [Sem.run_bind, run_underlying ht, Result.andThen_ok, hs2, h0, h1, if_false, hz2, Sem.run_pure, gt_iff_lt]
  obtain ⟨init, hinit⟩ : ∃ init : Array Value, init = Array.map (fun x => (z.cells[x % z.cells.size]!)) (Array.range (2 * K)) := ⟨_, rfl⟩
  have hsz : init.size = 2 * K := by rw [hinit]; simp
  rw [← hinit]
  simp only [Instr.fill, hv, hu, List.size_toArray, hl, hl2, hsz, ne_eq, not_true_eq_false, decide_false, Bool.false_or, Nat.zero_mul, Nat.one_mul, Nat.zero_add, gt_iff_lt, h2, h3, Bool.false_eq_true, if_false]
  have e1 := hf 0 cs init (by omega)
  simp only [Nat.zero_add, List.take_zero, List.nil_append] at e1
  rw [e1]
  have hsz2 : (cs ++ init.toList.drop cs.length).toArray.size = 2 * K := by simp; omega
  rw [hsz2]
  simp only [h3, decide_false, Bool.false_eq_true, if_false]
  rw [hf K ds _ (by rw [hsz2]; omega)]
  have e2 : (cs ++ init.toList.drop cs.length).take K = cs := by rw [← hl]; exact List.take_left
  have e3 : (cs ++ init.toList.drop cs.length).drop (K + ds.length) = [] := List.drop_eq_nil_of_le (by simp; omega)
  simp only [e2, e3, List.append_nil]
  simp [newRow]
section
variable {P : Program} {ops : Array Oper} {rest : List Oper} {o : Oper} {a : Act} {Q : Exit → Act → World → Prop} {w w' : World}
theorem wpl_buildSlice {t : TypeId} {n : Nat} {parts : Array (Nat × Operand)} {u : Value} (hgd : o.guard = none) (ho : o.op = .buildSlice t n parts) {vs : Array (Nat × Value)} (hvs : parts.map (fun x => (x.1, a.eval x.2)) = vs) (hr : (Instr.buildSlice t n vs).run P w = .ok u w')
    (h : wpList P ops Q rest (a.put o.dst u) w') : wpList P ops Q (o :: rest) a w := by
  refine wpList_plain hgd fun K hK => ?_
  unfold Oper.wp execOp
  subst hvs
  simp only [ho]
  have hr2 := hr
  simp only [Sem.run_bind]
  erw [hr]
  exact hK _ _ h
end
section
variable {P : Program} {ops : Array Oper} {rest : List Oper} {o : Oper} {a : Act} {Q : Exit → Act → World → Prop} {w w' : World}
/-- a step whose guard holds -/
theorem wplG (hw : Region.wanted o (yielded ops a.tmps) = true) (h : o.wp P a w (wpList P ops Q rest) Q) : wpList P ops Q (o :: rest) a w := by
  unfold wpList
  rw [if_pos hw]
  exact .inl h
theorem wplG_buildSlice {t : TypeId} {n : Nat} (parts : List (Nat × Operand)) (vs : List (Nat × Value)) {u : Value} (hw : Region.wanted o (yielded ops a.tmps) = true) (ho : o.op = .buildSlice t n parts.toArray) (hvs : parts.map (fun x => (x.1, a.eval x.2)) = vs) (hr : (Instr.buildSlice t n vs.toArray).run P w = .ok u w')
    (h : wpList P ops Q rest (a.put o.dst u) w') : wpList P ops Q (o :: rest) a w := by
  refine wplG hw ?_
  have e : parts.toArray.map (fun (x : Nat × Operand) => (x.1, a.eval x.2)) = vs.toArray := by rw [← hvs]; simp
  unfold Oper.wp execOp
  simp only [ho]
  simp only [Sem.run_bind]
  have e2 : parts.toArray.map (fun x => match x with | (i, x) => (i, a.eval x)) = vs.toArray := e
  rw [e2, hr]
  exact h
theorem wplG_load {ty : TypeId} (hw : Region.wanted o (yielded ops a.tmps) = true) (x : Operand) (ho : o.op = .load ty x) (b off : Nat) (hx : a.eval x = .pointer (some ⟨b, off, none⟩)) (cs : List Value) (d : TypeDesc) (hc : w.rangeAt b off cs)
    (hu : P.underlying ty = some d) (hd : d.isRow = true) (hi : (P.info? ty).map (·.size) = some cs.length) (h : wpList P ops Q rest (a.put o.dst (.agg cs.toArray)) w) : wpList P ops Q (o :: rest) a w :=
  wplG hw (wp_load_mid ty x ho b off hx cs d hc hu hd hi h)
end
end Go.Proofs.Ythihffglkheleaa
