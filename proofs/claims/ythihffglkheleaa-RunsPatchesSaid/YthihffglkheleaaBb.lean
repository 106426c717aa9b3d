/- Laws of append, make and copy over slices that read as lists. -/
import Derived.Test.YthihffglkheleaaBa
import Derived.Maps.AppendAt
import Derived.Handy
import Derived.Laws.CopyOwn
set_option linter.unusedVariables false
set_option linter.unusedSimpArgs false
namespace Go.Proofs.Ythihffglkheleaa
open Go.RowKit

section
variable {α : Type} {enc : α → Value}
/-- The row v, of the call's own from block lo on, is xs. -/
def Own (enc : α → Value) (e : TypeId) (lo : Nat) (w : World) (v : Value) (xs : List α) : Prop := w.ownsRow lo e 1 v xs.length (xs.map enc)
theorem Own.nil (enc : α → Value) (e : TypeId) (lo : Nat) (w : World) : Own enc e lo w (.slice none 0 0) [] := World.ownsRow_nil w lo e 1
theorem Own.rd {e : TypeId} {lo hi : Nat} {w : World} {v : Value} {xs : List α} (h : Own enc e lo w v xs) (hh : w.heap.size ≤ hi) : Rd enc lo hi w v xs := Rd.of_own h rfl rfl (Nat.le_refl _) hh
theorem Own.lt {e : TypeId} {lo : Nat} {w : World} {v : Value} {xs : List α} (h : Own enc e lo w v xs) : ∀ k, v.ownBlock = some k → lo ≤ k ∧ k < w.heap.size := World.ownsRow.lt h
theorem Own.chg {e : TypeId} {lo : Nat} {w w' : World} {v : Value} {xs : List α} {M : Nat → Prop} (h : Own enc e lo w v xs) (hc : Chg M w w') (hm : ∀ k, v.ownBlock = some k → ¬ M k) : Own enc e lo w' v xs := by
  have hl := h.lt
  obtain ⟨h1, h2⟩ := h
  refine ⟨h1, ?_⟩
  rcases h2 with h2 | ⟨g, cap, cur, rfl, hb, hg, h3⟩
  · exact .inl h2
  · exact .inr ⟨g, cap, cur, rfl, hb, (hc.block g (hl g rfl).2 (hm g rfl)).trans hg, h3⟩
theorem Own.new {e : TypeId} {lo : Nat} {w w' : World} {v : Value} {xs : List α} (h : Own enc e lo w v xs) (hc : New w w') : Own enc e lo w' v xs := h.chg (hc.chg (fun _ => False)) (fun _ _ h => h)
theorem Own.mono {e : TypeId} {lo lo' : Nat} {w : World} {v : Value} {xs : List α} (h : Own enc e lo w v xs) (hl : lo' ≤ lo) : Own enc e lo' w v xs := by
  obtain ⟨h1, h2⟩ := h
  refine ⟨h1, ?_⟩
  rcases h2 with h2 | ⟨g, cap, cur, rfl, hb, hg, h3⟩
  · exact .inl h2
  · exact .inr ⟨g, cap, cur, rfl, by omega, hg, h3⟩

theorem append_nil_run {P : Program} {t ty e : TypeId} {i : TypeInfo} (ht : P.underlying t = some (.slice e)) (hi : P.info? e = some i) (A B : Option Addr) (n c d : Nat) (hc : n ≤ c) (w : World) :
    (Builtin.append_ #[t, t] ty #[.slice A n c, .slice B 0 d]).run P w = .ok (.slice A n c) w := by
  rcases B with _ | b <;> rcases A with _ | a <;>
    simp [Builtin.append_, run_underlying ht, sizeOf, typeInfo, hi, Builtin.lenOf, Builtin.firstCells, loadCells, loadCellsFrom, hc, storeCells]

/-- append(v, u...): v of the call's own, u whatever reads. -/
theorem append_rd {P : Program} {t ty e : TypeId} {i : TypeInfo} {z : Value} {bytes : Nat} (ht : P.underlying t = some (.slice e)) (hi : P.info? e = some i) (hz : i.zero = some z) (hs : i.size = 1) (hb : i.bytes = bytes) (hzs : z.cells.size = 1)
    (h1 : ∀ x : α, (enc x).oneCell' = true) {lo lo' hi' : Nat} {w : World} {v u : Value} {xs ys : List α} (hv : Own enc e lo w v xs) (hu : Rd enc lo' hi' w u ys) (hl : (xs.length + ys.length) * bytes ≤ 140737488355328) (hm : xs.length + ys.length ≤ 9223372036854775807) (hlo : lo ≤ w.heap.size) :
    ∃ v' w', (Builtin.append_ #[t, t] ty #[v, u]).run P w = .ok v' w' ∧ Own enc e lo w' v' (xs ++ ys) ∧ w.grownBy w' v.ownBlock ∧ (v'.ownBlock = v.ownBlock ∨ v'.ownBlock = some w.heap.size) := by
  obtain ⟨B, d, rfl, hd1, hd2, hc⟩ := hu
  by_cases hy : ys = []
  · subst hy
    obtain ⟨A, c, rfl, hc1⟩ : ∃ A c, v = .slice A xs.length c ∧ xs.length ≤ c := by
      rcases hv.2 with ⟨rfl, h2⟩ | ⟨g, cap, cur, rfl, _, _, h3, _⟩
      · exact ⟨none, 0, by rw [h2], by omega⟩
      · exact ⟨_, cap, rfl, h3⟩
    exact ⟨_, w, append_nil_run ht hi A B xs.length c d hc1 w, by simpa using hv, ⟨rfl, rfl, rfl, Nat.le_refl _, fun _ _ _ => rfl⟩, .inl rfl⟩
  · rcases hc with hc | ⟨b, off, rfl, _, _, _, hc⟩
    · exact absurd hc hy
    · obtain ⟨v', w', hr, h2, h3, _, h5⟩ := run_append_own_at (P := P) w lo t ty e i z 1 bytes ht hi hz hs hb hzs (by omega) v xs.length (xs.map enc) hv ⟨b, off, none⟩ ys.length d (ys.map enc) (by simp)
        (fun j u hu => by
          have hj : j < ys.length := by
            rcases Nat.lt_or_ge j ys.length with h | h
            · exact h
            · simp [List.getElem?_eq_none h] at hu
          have hu' : enc ys[j] = u := by simpa [hj] using hu
          subst hu'
          rw [← hc j hj]
          congr 1
          unfold Addr.add
          split <;> simp_all)
        (fun u hu => by obtain ⟨x, _, rfl⟩ := List.mem_map.1 hu; exact h1 x) (by simpa [maxLen] using hm) hl hlo
      exact ⟨v', w', hr, by simpa [Own] using h2, h3, h5⟩

theorem toList_madeCells (z : Value) (n : Nat) : (madeCells #[z] n).toList = List.replicate n z := by
  apply List.ext_getElem
  · simp [madeCells]
  · intro i h1 h2
    simp [madeCells, Nat.mod_one]

/-- make([]T, n, c) -/
theorem own_make {P : Program} {t e : TypeId} {i : TypeInfo} {z : α} (ht : P.underlying t = some (.slice e)) (hi : P.info? e = some i) (hz : i.zero = some (enc z)) (hs : i.size = 1) (hzs : (enc z).cells = #[enc z]) (n c : Nat) (hn : n ≤ c) (hb : i.bytes * c ≤ 281474976710656) (hc : c ≤ 9223372036854775807) (lo : Nat) (w : World) (hlo : lo ≤ w.heap.size) (kl kc : IntKind) :
    ∃ w', (Instr.makeSlice t (.int kl (n : Int)) (.int kc (c : Int))).run P w = .ok (.slice (some ⟨w.heap.size, 0, none⟩) n c) w' ∧ New w w' ∧ w.heap.size < w'.heap.size ∧ Own enc e lo w' (.slice (some ⟨w.heap.size, 0, none⟩) n c) (List.replicate n z) := by
  have hb' : (i.bytes : Int) * (c : Int) ≤ 281474976710656 := by
    have h : ((i.bytes * c : Nat) : Int) ≤ 281474976710656 := by omega
    rwa [Int.natCast_mul] at h
  have hr := run_make (P := P) w t e i (enc z) ht hi hz kl kc n c (by omega) (by omega) hb' (by omega)
  simp only [Int.toNat_natCast, hs, Nat.mul_one, hzs] at hr
  refine ⟨_, hr, (Below.refl _ _).alloc (Nat.le_refl _) _, by simp, ?_⟩
  refine ⟨by simp, .inr ⟨w.heap.size, c, madeCells #[enc z] c, by simp, hlo, heap_alloc_new w _, by simpa using hn, by simpa [maxLen] using hc, by simp [size_madeCells], ?_⟩⟩
  rw [toList_madeCells]
  simp [List.take_replicate, Nat.min_eq_left hn]

/-- copy(v, u): v of the call's own, u whatever reads. -/
theorem copy_rd {P : Program} {t t' ty e : TypeId} {i : TypeInfo} (ht : P.underlying t = some (.slice e)) (hi : P.info? e = some i) (hs : i.size = 1)
    (h1 : ∀ x : α, (enc x).oneCell' = true) {lo lo' hi' : Nat} {w : World} {v u : Value} {xs ys : List α} (hv : Own enc e lo w v xs) (hu : Rd enc lo' hi' w u ys) :
    ∃ w', (Builtin.copy_ #[t, t'] ty #[v, u]).run P w = .ok (.int .i64 ((min ys.length xs.length : Nat) : Int)) w' ∧ Own enc e lo w' v (ys.take xs.length ++ xs.drop ys.length) ∧ w.grownBy w' v.ownBlock ∧ w'.heap.size = w.heap.size := by
  have hu' := hu
  obtain ⟨B, d, rfl, hd1, hd2, hc⟩ := hu
  by_cases h0 : min ys.length xs.length = 0
  · have hx : ys.take xs.length ++ xs.drop ys.length = xs := by
      rcases Nat.eq_zero_or_pos xs.length with h | h
      · have : xs = [] := List.eq_nil_of_length_eq_zero h
        subst this; simp
      · have : ys = [] := List.eq_nil_of_length_eq_zero (by omega)
        subst this; simp
    rw [hx]
    have h0' : ys.length.min xs.length = 0 := h0
    refine ⟨w, ?_, hv, ⟨rfl, rfl, rfl, Nat.le_refl _, fun _ _ _ => rfl⟩, rfl⟩
    rcases hv.2 with ⟨rfl, h2⟩ | ⟨g, cap, cur, rfl, _, _, h3, _⟩
    · rw [h0]
      rcases B with _ | b <;> simp [Builtin.copy_, run_underlying ht, sizeOf, typeInfo, hi, Builtin.lenOf, Builtin.firstCells, loadCells, loadCellsFrom, goInt]
    · rw [h0]
      rcases B with _ | b <;> simp [Builtin.copy_, run_underlying ht, sizeOf, typeInfo, hi, Builtin.lenOf, Builtin.firstCells, loadCells, loadCellsFrom, h0', goInt, storeCells]
  · rcases hc with hc | ⟨b, off, rfl, _, _, _, hc⟩
    · subst hc; simp at h0
    · obtain ⟨hv1, hv2⟩ := hv
      rcases hv2 with ⟨rfl, h2⟩ | ⟨g, cap, cur, rfl, hb, hg, h3, h4, h5, h6⟩
      · omega
      · have hf := run_firstCells_some (P := P) w 1 (ys.length.min xs.length) ⟨b, off, none⟩ ys.length d ((ys.take xs.length).map enc) (by simp [Nat.min_comm])
          (fun j x hx => by
            have hj : j < ys.length ∧ j < xs.length := by
              rcases Nat.lt_or_ge j (min ys.length xs.length) with h | h
              · omega
              · rw [List.getElem?_eq_none (by simp; omega)] at hx
                cases hx
            have hx' : enc (ys[j]'hj.1) = x := by simpa [List.getElem?_take, hj.1, hj.2] using hx
            subst hx'
            rw [← hc j hj.1]
            congr 1
            unfold Addr.add
            split <;> simp_all)
        have hst := run_storeCells_at P g 0 e ((ys.take xs.length).map enc) 0 cur w hg (by simp at h5 ⊢; omega) (fun x hx => by obtain ⟨y, _, rfl⟩ := List.mem_map.1 hx; exact h1 y)
        obtain ⟨N, hN, hst⟩ : ∃ N : Array Value, N.toList = (ys.take xs.length).map enc ++ cur.toList.drop (min xs.length ys.length) ∧ (storeCells ⟨g, 0, none⟩ ((ys.take xs.length).map enc) 0).run P w = .ok () (w.setRow g N) :=
          ⟨_, by simp, hst⟩
        have hNs : N.size = cap * 1 := by
          rw [← Array.length_toList, hN]
          simp at h5 ⊢
          omega
        have hNt : N.toList.take (xs.length * 1) = (ys.take xs.length ++ xs.drop ys.length).map enc := by
          have h6' : cur.toList.take xs.length = xs.map enc := by simpa using h6
          rw [hN, Nat.mul_one]
          rcases Nat.le_total xs.length ys.length with hxy | hxy
          · rw [List.drop_eq_nil_of_le hxy, List.append_nil, List.take_append_of_le_length (by simp; omega), List.take_of_length_le (by simp; omega)]
          · rw [List.take_of_length_le hxy, List.take_append, Nat.min_eq_right hxy, List.length_map, List.take_of_length_le (by simpa using hxy), List.map_append, List.map_drop, ← h6', List.drop_take]
        have hst' : (storeCells ⟨g, 0, none⟩ ((ys.map enc).take xs.length) 0).run P w = .ok () (w.setRow g N) := by rw [← List.map_take]; exact hst
        have hmn : ys.length.min xs.length = min ys.length xs.length := rfl
        refine ⟨w.setRow g N, ?_, ⟨by simp, .inr ⟨g, cap, N, ?_, hb, setRow_heap w g cur N e _ hg, ?_, h4, hNs, ?_⟩⟩, ⟨rfl, rfl, rfl, by simp [World.setRow], fun k _ hk => setRow_other w g k _ (fun e => hk (by simp [Value.ownBlock, e]))⟩, by simp [World.setRow]⟩
        · simp [Builtin.copy_, run_underlying ht, sizeOf, typeInfo, hi, hs, Builtin.lenOf, hf, hst', goInt, hmn]
        · congr 1
          simp
          omega
        · simp
          omega
        · rw [← hNt]
          congr 1
          simp
          omega

section
variable {P : Program} {ops : Array Oper} {rest : List Oper} {o : Oper} {a : Act} {Q : Exit → Act → World → Prop}
/-- append(v, u...) in a walk -/
theorem wpl_append {t e : TypeId} {z : Value} {bytes : Nat} (hgd : o.guard = none) (s x : Operand)
    (ho : o.op = .call { callee := .builtin .append, args := #[s, x], argTypes := #[t, t] }) (ht : P.underlying t = some (.slice e)) (hinfo : (P.info? e).map (fun i => (i.zero, i.size, i.bytes)) = some (some z, 1, bytes)) (hzs : z.cells.size = 1)
    (h1 : ∀ x : α, (enc x).oneCell' = true) {lo lo' hi' : Nat} {w : World} {v u : Value} {xs ys : List α} (hs : a.eval s = v) (hx : a.eval x = u) (hv : Own enc e lo w v xs) (hu : Rd enc lo' hi' w u ys)
    (hl : (xs.length + ys.length) * bytes ≤ 140737488355328) (hm : xs.length + ys.length ≤ 9223372036854775807) (hlo : lo ≤ w.heap.size)
    (h : ∀ A' c' w', Own enc e lo w' (.slice A' (xs.length + ys.length) c') (xs ++ ys) → w.grownBy w' v.ownBlock → ((Value.slice A' (xs.length + ys.length) c').ownBlock = v.ownBlock ∨ (Value.slice A' (xs.length + ys.length) c').ownBlock = some w.heap.size) → wpList P ops Q rest (a.put o.dst (.slice A' (xs.length + ys.length) c')) w') :
    wpList P ops Q (o :: rest) a w := by
  refine wpList_plain hgd fun K hK => ?_
  obtain ⟨i0, hi, hzz⟩ := Option.map_eq_some_iff.1 hinfo
  simp only [Prod.mk.injEq] at hzz
  obtain ⟨hz0, hz1, hz2⟩ := hzz
  obtain ⟨v', w', hr, h2, h3, h5⟩ := append_rd (P := P) (ty := o.type) ht hi hz0 hz1 hz2 hzs h1 hv hu hl hm hlo
  obtain ⟨A', c', hA, _, _⟩ := (h2.rd (Nat.le_refl _)).form
  subst hA
  rw [List.length_append] at hr h2 h5
  unfold Oper.wp execOp
  simp only [ho, resolve, invoke, builtin, Sem.run_bind, Sem.run_pure, Result.andThen_ok, List.map_toArray, List.map_cons, List.map_nil, hs, hx, hr]
  exact hK _ _ (h A' c' w' h2 h3 h5)

/-- append(v, y), y one element, laid in a block of its own: in a walk -/
theorem wpl_append1 {t e : TypeId} {z : Value} {bytes : Nat} (hgd : o.guard = none) (s x : Operand)
    (ho : o.op = .call { callee := .builtin .append, args := #[s, x], argTypes := #[t, t] }) (ht : P.underlying t = some (.slice e)) (hinfo : (P.info? e).map (fun i => (i.zero, i.size, i.bytes)) = some (some z, 1, bytes)) (hzs : z.cells.size = 1)
    (h1 : ∀ x : α, (enc x).oneCell' = true) {lo : Nat} {w : World} {v : Value} {xs : List α} (y : α) (hs : a.eval s = v) (hx : a.eval x = .slice (some ⟨w.heap.size, 0, none⟩) 1 1) (hv : Own enc e lo w v xs)
    (hl : (xs.length + 1) * bytes ≤ 140737488355328) (hm : xs.length + 1 ≤ 9223372036854775807) (hlo : lo ≤ w.heap.size)
    (h : ∀ A' c' w', Own enc e lo w' (.slice A' (xs.length + 1) c') (xs ++ [y]) → w.grownBy w' v.ownBlock → ((Value.slice A' (xs.length + 1) c').ownBlock = v.ownBlock ∨ ∃ b, (Value.slice A' (xs.length + 1) c').ownBlock = some b ∧ w.heap.size ≤ b) → wpList P ops Q rest (a.put o.dst (.slice A' (xs.length + 1) c')) w') :
    wpList P ops Q (o :: rest) a (w.alloc (.cells #[enc y] e)) := by
  have hN : New w (w.alloc (.cells #[enc y] e)) := (Below.refl _ w).alloc (Nat.le_refl _) _
  refine wpl_append (enc := enc) (ys := [y]) (lo' := 0) (hi' := w.heap.size + 1) hgd s x ho ht hinfo hzs h1 hs hx (hv.new hN) ⟨_, _, rfl, by simp, by simp, .inr ⟨w.heap.size, 0, rfl, by omega, by omega, by simp, fun i hi => ?_⟩⟩ hl hm (by simp; omega) ?_
  · simp at hi
    subst hi
    have := heap_alloc_new w (.cells #[enc y] e)
    simp only [World.cell?, this]
    simp
  · intro A' c' w' h2 h3 h5
    refine h A' c' w' h2 (World.grownBy.trans (World.grownBy_alloc w _ _) h3) ?_
    rcases h5 with h5 | h5
    · exact .inl h5
    · exact .inr ⟨_, h5, by simp⟩

/-- make([]T, n, c) in a walk -/
theorem wpl_make {t e : TypeId} {z : α} {bytes : Nat} (hgd : o.guard = none) (l c : Operand) (ho : o.op = .makeSlice t l c) (ht : P.underlying t = some (.slice e)) (hinfo : (P.info? e).map (fun i => (i.zero, i.size, i.bytes)) = some (some (enc z), 1, bytes)) (hzs : (enc z).cells = #[enc z])
    {w : World} (n m : Nat) (kl kc : IntKind) {L C : Int} (hln : a.eval l = .int kl L) (hcn : a.eval c = .int kc C) (hL : L = n) (hC : C = m) (hn : n ≤ m) (hb : bytes * m ≤ 281474976710656) (hc : m ≤ 9223372036854775807) (lo : Nat) (hlo : lo ≤ w.heap.size)
    (h : ∀ w', New w w' → w.heap.size < w'.heap.size → Own enc e lo w' (.slice (some ⟨w.heap.size, 0, none⟩) n m) (List.replicate n z) → wpList P ops Q rest (a.put o.dst (.slice (some ⟨w.heap.size, 0, none⟩) n m)) w') :
    wpList P ops Q (o :: rest) a w := by
  refine wpList_plain hgd fun K hK => ?_
  obtain ⟨i0, hi, hzz⟩ := Option.map_eq_some_iff.1 hinfo
  simp only [Prod.mk.injEq] at hzz
  obtain ⟨hz0, hz1, hz2⟩ := hzz
  subst hL hC
  obtain ⟨w', hr, h2, h3, h4⟩ := own_make (P := P) (enc := enc) ht hi hz0 hz1 hzs n m hn (by rw [hz2]; exact hb) hc lo w hlo kl kc
  unfold Oper.wp
  simp [execOp, ho, hln, hcn, hr, Result.andThen]
  exact hK _ _ (h w' h2 h3 h4)

/-- copy(v, u) in a walk -/
theorem wpl_copy {t t' e : TypeId} (hgd : o.guard = none) (d s : Operand)
    (ho : o.op = .call { callee := .builtin .copy, args := #[d, s], argTypes := #[t, t'] }) (ht : P.underlying t = some (.slice e)) (hinfo : (P.info? e).map (·.size) = some 1)
    (h1 : ∀ x : α, (enc x).oneCell' = true) {lo lo' hi' : Nat} {w : World} {v u : Value} {xs ys : List α} (hd : a.eval d = v) (hs : a.eval s = u) (hv : Own enc e lo w v xs) (hu : Rd enc lo' hi' w u ys)
    (h : ∀ w', Own enc e lo w' v (ys.take xs.length ++ xs.drop ys.length) → w.grownBy w' v.ownBlock → w'.heap.size = w.heap.size → wpList P ops Q rest (a.put o.dst (.int .i64 ((min ys.length xs.length : Nat) : Int))) w') :
    wpList P ops Q (o :: rest) a w := by
  refine wpList_plain hgd fun K hK => ?_
  obtain ⟨i0, hi, hz1⟩ := Option.map_eq_some_iff.1 hinfo
  obtain ⟨w', hr, h2, h3, h4⟩ := copy_rd (P := P) (t' := t') (ty := o.type) ht hi hz1 h1 hv hu
  unfold Oper.wp execOp
  simp only [ho, resolve, invoke, builtin, Sem.run_bind, Sem.run_pure, Result.andThen_ok, List.map_toArray, List.map_cons, List.map_nil, hs, hd, hr]
  exact hK _ _ (h w' h2 h3 h4)
end

/-- s[l:h:m] of a slice that reads -/
theorem slice_run {P : Program} {t e : TypeId} (ht : P.underlying t = some (.slice e)) (hinfo : (P.info? e).map (·.size) = some 1) {lo hi : Nat} {w : World} {A : Option Addr} {c : Nat} {xs : List α} (h : Rd enc lo hi w (.slice A xs.length c) xs)
    (l hh m : Nat) (h1 : l ≤ hh) (h2 : hh ≤ xs.length) (h3 : hh ≤ m) (h4 : m ≤ c) :
    Rd enc lo hi w (.slice (if m = l then A else A.map (·.add (l * 1))) (hh - l) (m - l)) ((xs.drop l).take (hh - l)) := by
  obtain ⟨A', c', e', g1, g2, g3⟩ := h
  injection e' with e1 e2 e3
  subst e1 e3
  have hlen : ((xs.drop l).take (hh - l)).length = hh - l := by simp; omega
  refine ⟨_, m - l, by rw [hlen], by rw [hlen]; omega, by omega, ?_⟩
  by_cases hz : (xs.drop l).take (hh - l) = []
  · exact .inl hz
  · have hpos : 0 < hh - l := by
      rcases Nat.eq_zero_or_pos (hh - l) with h0 | h0
      · exact absurd (List.eq_nil_of_length_eq_zero (by rw [hlen]; exact h0)) hz
      · exact h0
    rcases g3 with g3 | ⟨b, off, rfl, k1, k2, k3, k4⟩
    · subst g3; simp at hz
    · have hne : ¬ (m = l) := by omega
      rw [if_neg hne]
      refine .inr ⟨b, off + l, ?_, k1, k2, k3, fun i hi => ?_⟩
      · simp only [Option.map_some, Addr.add, Nat.mul_one]
        split
        · simp_all
        · rfl
      · rw [hlen] at hi
        have := k4 (l + i) (by omega)
        rw [Nat.add_assoc, this]
        simp
end
section
variable {α : Type} {enc : α → Value} {P : Program} {t e : TypeId}
theorem size_run (hinfo : (P.info? e).map (·.size) = some 1) (W : World) : (sizeOf e).run P W = .ok 1 W := by
  obtain ⟨i, hi, hs⟩ := Option.map_eq_some_iff.1 hinfo
  simp [sizeOf, typeInfo, hi, hs]
theorem slice_lh (ht : P.underlying t = some (.slice e)) (hinfo : (P.info? e).map (·.size) = some 1) {lo hi : Nat} {w : World} {A : Option Addr} {c : Nat} {xs : List α} (h : Rd enc lo hi w (.slice A xs.length c) xs) (kl kh : IntKind) (l hh : Int) (h0 : 0 ≤ l) (h1 : l ≤ hh) (h2 : hh ≤ xs.length) :
    ∃ A', (∀ W, (Instr.slice t (.slice A xs.length c) (some (.int kl l)) (some (.int kh hh)) none).run P W = .ok (.slice A' (hh.toNat - l.toNat) (c - l.toNat)) W) ∧ Rd enc lo hi w (.slice A' (hh.toNat - l.toNat) (c - l.toNat)) ((xs.drop l.toNat).take (hh.toNat - l.toNat)) := by
  have hc : xs.length ≤ c := by
    obtain ⟨A', c', e', g1, g2, g3⟩ := h
    injection e' with e1 e2 e3
    omega
  refine ⟨_, fun W => ?_, slice_run ht hinfo h l.toNat hh.toNat c (by omega) (by omega) (by omega) (Nat.le_refl _)⟩
  have hs := size_run hinfo W
  have b1 : (hh.toNat : Int) = hh := by omega
  simp [Instr.slice, run_underlying ht, Instr.sliceBounds, run_sliceBound, h0, h1, b1, (by omega : 0 ≤ hh), (by omega : hh ≤ (c : Int)), hs]
theorem slice_h (ht : P.underlying t = some (.slice e)) (hinfo : (P.info? e).map (·.size) = some 1) {lo hi : Nat} {w : World} {A : Option Addr} {c : Nat} {xs : List α} (h : Rd enc lo hi w (.slice A xs.length c) xs) (kh : IntKind) (hh : Int) (h1 : 0 ≤ hh) (h2 : hh ≤ xs.length) :
    ∃ A', (∀ W, (Instr.slice t (.slice A xs.length c) none (some (.int kh hh)) none).run P W = .ok (.slice A' hh.toNat c) W) ∧ Rd enc lo hi w (.slice A' hh.toNat c) (xs.take hh.toNat) := by
  have hc : xs.length ≤ c := by
    obtain ⟨A', c', e', g1, g2, g3⟩ := h
    injection e' with e1 e2 e3
    omega
  have hr := slice_run ht hinfo h 0 hh.toNat c (by omega) (by omega) (by omega) (Nat.le_refl _)
  simp only [Nat.sub_zero, List.drop_zero] at hr
  refine ⟨_, fun W => ?_, hr⟩
  have hs := size_run hinfo W
  simp [Instr.slice, run_underlying ht, Instr.sliceBounds, run_sliceBound, h1, (by omega : hh ≤ (c : Int)), hs]
theorem slice_l (ht : P.underlying t = some (.slice e)) (hinfo : (P.info? e).map (·.size) = some 1) {lo hi : Nat} {w : World} {A : Option Addr} {c : Nat} {xs : List α} (h : Rd enc lo hi w (.slice A xs.length c) xs) (kl : IntKind) (l : Int) (h1 : 0 ≤ l) (h2 : l ≤ xs.length) :
    ∃ A', (∀ W, (Instr.slice t (.slice A xs.length c) (some (.int kl l)) none none).run P W = .ok (.slice A' (xs.length - l.toNat) (c - l.toNat)) W) ∧ Rd enc lo hi w (.slice A' (xs.length - l.toNat) (c - l.toNat)) (xs.drop l.toNat) := by
  have hc : xs.length ≤ c := by
    obtain ⟨A', c', e', g1, g2, g3⟩ := h
    injection e' with e1 e2 e3
    omega
  have hr := slice_run ht hinfo h l.toNat xs.length c (by omega) (Nat.le_refl _) hc (Nat.le_refl _)
  rw [List.take_of_length_le (by simp)] at hr
  refine ⟨_, fun W => ?_, hr⟩
  have hs := size_run hinfo W
  simp [Instr.slice, run_underlying ht, Instr.sliceBounds, run_sliceBound, h1, (by omega : l ≤ (xs.length : Int)), hs]
theorem slice_hm (ht : P.underlying t = some (.slice e)) (hinfo : (P.info? e).map (·.size) = some 1) {lo hi : Nat} {w : World} {A : Option Addr} {c : Nat} {xs : List α} (h : Rd enc lo hi w (.slice A xs.length c) xs) (kh km : IntKind) (hh : Int) (h1 : 0 ≤ hh) (h2 : hh ≤ xs.length) :
    ∃ A', (∀ W, (Instr.slice t (.slice A xs.length c) none (some (.int kh hh)) (some (.int km hh))).run P W = .ok (.slice A' hh.toNat hh.toNat) W) ∧ Rd enc lo hi w (.slice A' hh.toNat hh.toNat) (xs.take hh.toNat) := by
  have hc : xs.length ≤ c := by
    obtain ⟨A', c', e', g1, g2, g3⟩ := h
    injection e' with e1 e2 e3
    omega
  have hr := slice_run ht hinfo h 0 hh.toNat hh.toNat (by omega) (by omega) (Nat.le_refl _) (by omega)
  simp only [Nat.sub_zero, List.drop_zero] at hr
  refine ⟨_, fun W => ?_, hr⟩
  have hs := size_run hinfo W
  have b1 : (hh.toNat : Int) = hh := by omega
  simp [Instr.slice, run_underlying ht, Instr.sliceBounds, run_sliceBound, h1, b1, (by omega : hh ≤ (c : Int)), hs]
end
end Go.Proofs.Ythihffglkheleaa
