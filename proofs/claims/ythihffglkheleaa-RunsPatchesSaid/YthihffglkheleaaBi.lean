/- Slices whose elements have K cells each (for every seat): cut, append of a whole slice, min. -/
import Derived.Test.YthihffglkheleaaBh
set_option linter.unusedVariables false
set_option linter.unusedSimpArgs false
namespace Go.Proofs.Ythihffglkheleaa
open Go.RowKit

theorem addr_add0 (a : Addr) : a.add 0 = a := by unfold Addr.add; simp
section
variable {α : Type} {K : Nat} {enc : α → List Value} {lo hi : Nat} {w w' : World} {A : Option Addr} {c : Nat} {xs : List α} {v : Value}
theorem RdC.cut (h : RdC K enc lo hi w (.slice A xs.length c) xs) (m : Nat) : ∃ ys : List α, ys = xs.take m ∧ ys.length = min xs.length m ∧ RdC K enc lo hi w (.slice A ys.length c) ys := by
  have hyl : (xs.take m).length = min xs.length m := by rw [List.length_take, Nat.min_comm]
  obtain ⟨A', c', e, h1, h2, h3⟩ := h
  injection e with e1 e2 e3
  subst e1 e3
  refine ⟨xs.take m, rfl, hyl, A, c, rfl, by omega, h2, ?_⟩
  rcases h3 with h3 | ⟨b, off, rfl, hl, hh, hs, hc⟩
  · exact .inl (by rw [h3]; simp)
  · exact .inr ⟨b, off, rfl, hl, hh, hs, fun i hi j hj => by rw [List.getElem_take]; exact hc i (by omega) j hj⟩
theorem RdC.chg {M : Nat → Prop} (h : RdC K enc lo hi w v xs) (hc : Chg M w w') (hm : ∀ k, lo ≤ k → k < hi → ¬ M k) : RdC K enc lo hi w' v xs := by
  obtain ⟨A, c, e, h1, h2, h3⟩ := h
  refine ⟨A, c, e, h1, h2, ?_⟩
  rcases h3 with h3 | ⟨b, off, hA, hl, hh, hs, hcell⟩
  · exact .inl h3
  · exact .inr ⟨b, off, hA, hl, hh, Nat.lt_of_lt_of_le hs hc.size, fun i hi j hj => (World.cell?_of_block (hc.block b hs (hm b hl hh))).trans (hcell i hi j hj)⟩
theorem RdC.mono {lo' hi' : Nat} (h : RdC K enc lo hi w v xs) (hl : lo' ≤ lo) (hh : hi ≤ hi') : RdC K enc lo' hi' w v xs := by
  obtain ⟨A, c, e, h1, h2, h3⟩ := h
  refine ⟨A, c, e, h1, h2, ?_⟩
  rcases h3 with h3 | ⟨b, off, hA, hl', hh', hs, hcell⟩
  · exact .inl h3
  · exact .inr ⟨b, off, hA, by omega, by omega, hs, hcell⟩
end
/-- x[:m], of whatever elements -/
theorem sliceG_h {P : Program} {t e : TypeId} {K : Nat} (ht : P.underlying t = some (.slice e)) (hinfo : (P.info? e).map (·.size) = some K) (A : Option Addr) (n c m : Nat) (hm : m ≤ n) (hn : n ≤ c) :
    ∀ W, (Instr.slice t (.slice A n c) none (some (.int .i64 m)) none).run P W = .ok (.slice A m c) W := by
  intro W
  have hs : (sizeOf e).run P W = .ok K W := by
    obtain ⟨i, hi, hs⟩ := Option.map_eq_some_iff.1 hinfo
    simp [sizeOf, typeInfo, hi, hs]
  have e1 : (A.map fun x => x.add 0) = A := by cases A <;> simp [addr_add0]
  simp [Instr.slice, run_underlying ht, Instr.sliceBounds, run_sliceBound, hs, e1, (by omega : m ≤ c), addr_add0]
section
variable {α : Type} {K : Nat} {enc : α → List Value} {t e : TypeId} {lo lo' hi' : Nat} {w w' : World} {v u : Value} {xs ys : List α} {P : Program}
theorem appendC_run {z : Value} {bytes : Nat} (ty : TypeId) (ht : P.underlying t = some (.slice e)) (hinfo : (P.info? e).map (fun i => (i.zero, i.size, i.bytes)) = some (some z, K, bytes)) (hzs : z.cells.size = K) (hK : 0 < K)
    (hv : OwnC K enc e lo w v xs) (hu : RdC K enc lo' hi' w u ys) (hy : ∀ y ∈ ys, (enc y).length = K) (h1 : ∀ y ∈ ys, ∀ x ∈ enc y, x.oneCell' = true) (hl : (xs.length + ys.length) * bytes ≤ 140737488355328) (hm : xs.length + ys.length ≤ 9223372036854775807) (hlo : lo ≤ w.heap.size) :
    ∃ A' c' w', (Builtin.append_ #[t, t] ty #[v, u]).run P w = .ok (.slice A' (xs.length + ys.length) c') w' ∧ OwnC K enc e lo w' (.slice A' (xs.length + ys.length) c') (xs ++ ys) ∧ w.grownBy w' v.ownBlock ∧
      ((Value.slice A' (xs.length + ys.length) c').ownBlock = v.ownBlock ∨ (Value.slice A' (xs.length + ys.length) c').ownBlock = some w.heap.size) := by
  obtain ⟨i0, hi, hzz⟩ := Option.map_eq_some_iff.1 hinfo
  simp only [Prod.mk.injEq] at hzz
  obtain ⟨hz0, hz1, hz2⟩ := hzz
  obtain ⟨B, d, rfl, hd1, hd2, hc⟩ := hu
  by_cases hye : ys = []
  · subst hye
    obtain ⟨A, c, rfl, hc1, _⟩ := hv.form
    exact ⟨A, c, w, append_nil_run ht hi A B xs.length c d hc1 w, by simpa using hv, ⟨rfl, rfl, rfl, Nat.le_refl _, fun _ _ _ => rfl⟩, .inl rfl⟩
  · rcases hc with hc | ⟨b, off, rfl, _, _, _, hc⟩
    · exact absurd hc hye
    · have hyl : (ys.flatMap enc).length = ys.length * K := by
        clear hc hl hm h1 hye hd1
        induction ys with
        | nil => simp
        | cons y ys ih => rw [List.flatMap_cons, List.length_append, hy y (by simp), ih (fun z hz => hy z (by simp [hz])), List.length_cons, Nat.add_mul]; omega
      obtain ⟨v', w', hr, h2, h3, _, h5⟩ := run_append_own_at (P := P) w lo t ty e i0 z K bytes ht hi hz0 hz1 hz2 hzs hK v xs.length (xs.flatMap enc) hv.1 ⟨b, off, none⟩ ys.length d (ys.flatMap enc) hyl
        (fun j x hx => by
          have hj : j < ys.length * K := by
            rcases Nat.lt_or_ge j (ys.length * K) with h | h
            · exact h
            · rw [List.getElem?_eq_none (by omega)] at hx; cases hx
          have hq : j / K < ys.length := Nat.div_lt_of_lt_mul (by rw [Nat.mul_comm]; exact hj)
          have hr : j % K < K := Nat.mod_lt _ hK
          have hjj : j / K * K + j % K = j := by rw [Nat.mul_comm]; exact Nat.div_add_mod j K
          have hg := flatMap_get K enc ys hy (j / K) hq (j % K) hr
          rw [hjj, hx] at hg
          rw [addr_plain, show off + j = off + j / K * K + j % K by omega, hc _ hq _ hr, ← hg])
        (fun x hx => by obtain ⟨y, hy2, hx2⟩ := List.mem_flatMap.1 hx; exact h1 y hy2 x hx2) (by simpa [maxLen] using hm) hl hlo
      have hO : OwnC K enc e lo w' v' (xs ++ ys) := ⟨by rw [List.length_append, List.flatMap_append]; exact h2, fun x hx => by
        rcases List.mem_append.1 hx with hx | hx
        · exact hv.2 x hx
        · exact hy x hx⟩
      obtain ⟨A', c', rfl, _, _⟩ := hO.form
      rw [List.length_append] at hr hO h5
      exact ⟨A', c', w', hr, hO, h3, h5⟩
variable {ops : Array Oper} {rest : List Oper} {o : Oper} {a : Act} {Q : Exit → Act → World → Prop}
theorem wplG_appendC {z : Value} {bytes : Nat} (hw : Region.wanted o (yielded ops a.tmps) = true) (s x : Operand) (ho : o.op = .call { callee := .builtin .append, args := #[s, x], argTypes := #[t, t] }) (ht : P.underlying t = some (.slice e)) (hinfo : (P.info? e).map (fun i => (i.zero, i.size, i.bytes)) = some (some z, K, bytes)) (hzs : z.cells.size = K) (hK : 0 < K)
    (hs : a.eval s = v) (hx : a.eval x = u) (hv : OwnC K enc e lo w v xs) (hu : RdC K enc lo' hi' w u ys) (hy : ∀ y ∈ ys, (enc y).length = K) (h1 : ∀ y ∈ ys, ∀ x ∈ enc y, x.oneCell' = true) (hl : (xs.length + ys.length) * bytes ≤ 140737488355328) (hm : xs.length + ys.length ≤ 9223372036854775807) (hlo : lo ≤ w.heap.size)
    (h : ∀ A' c' w', OwnC K enc e lo w' (.slice A' (xs.length + ys.length) c') (xs ++ ys) → w.grownBy w' v.ownBlock → ((Value.slice A' (xs.length + ys.length) c').ownBlock = v.ownBlock ∨ (Value.slice A' (xs.length + ys.length) c').ownBlock = some w.heap.size) → wpList P ops Q rest (a.put o.dst (.slice A' (xs.length + ys.length) c')) w') :
    wpList P ops Q (o :: rest) a w := by
  refine wplG hw ?_
  obtain ⟨A', c', w', hr, h2, h3, h5⟩ := appendC_run (P := P) o.type ht hinfo hzs hK hv hu hy h1 hl hm hlo
  unfold Oper.wp execOp
  simp only [ho, resolve, invoke, builtin, Sem.run_bind, Sem.run_pure, Result.andThen_ok, List.map_toArray, List.map_cons, List.map_nil, hs, hx, hr]
  exact h A' c' w' h2 h3 h5
/-- min(n, m) in a walk -/
theorem wplG_min (hw : Region.wanted o (yielded ops a.tmps) = true) (x : Operand) (m : Nat) {ats : Array TypeId}
    (ho : o.op = .call { callee := .builtin .min, args := #[x, .const (.int .i64 m)], argTypes := ats }) {n : Nat} (hx : a.eval x = .int .i64 n)
    {k : Nat} (hk : k = min n m) (h : wpList P ops Q rest (a.put o.dst (.int .i64 k)) w) : wpList P ops Q (o :: rest) a w := by
  refine wplG hw ?_
  subst hk
  have e : (if (m : Int) < n then (m : Int) else n) = ((min n m : Nat) : Int) := by
    by_cases hk : m < n
    · rw [if_pos (by omega), Nat.min_eq_right (by omega)]
    · rw [if_neg (by omega), Nat.min_eq_left (by omega)]
  have hc : a.eval (.const (.int .i64 m)) = .int .i64 m := rfl
  unfold Oper.wp execOp
  simp only [ho, resolve, invoke, builtin, Sem.run_bind, Sem.run_pure, Result.andThen_ok, List.map_toArray, List.map_cons, List.map_nil, hx, hc, Builtin.min_, Builtin.min2, List.foldlM_cons, List.foldlM_nil, e]
  exact h
theorem wplG_min2 (hw : Region.wanted o (yielded ops a.tmps) = true) (x y : Operand) {ats : Array TypeId}
    (ho : o.op = .call { callee := .builtin .min, args := #[x, y], argTypes := ats }) {n m : Nat} (hx : a.eval x = .int .i64 n) (hy : a.eval y = .int .i64 m)
    {k : Nat} (hk : k = min n m) (h : wpList P ops Q rest (a.put o.dst (.int .i64 k)) w) : wpList P ops Q (o :: rest) a w := by
  refine wplG hw ?_
  subst hk
  have e : (if (m : Int) < n then (m : Int) else n) = ((min n m : Nat) : Int) := by
    by_cases hk : m < n
    · rw [if_pos (by omega), Nat.min_eq_right (by omega)]
    · rw [if_neg (by omega), Nat.min_eq_left (by omega)]
  unfold Oper.wp execOp
  simp only [ho, resolve, invoke, builtin, Sem.run_bind, Sem.run_pure, Result.andThen_ok, List.map_toArray, List.map_cons, List.map_nil, hx, hy, Builtin.min_, Builtin.min2, List.foldlM_cons, List.foldlM_nil, e]
  exact h
theorem exec_min (x : Operand) (m : Nat) {ats : Array TypeId}
    (ho : o.op = .call { callee := .builtin .min, args := #[x, .const (.int .i64 m)], argTypes := ats }) {n : Nat} (hx : a.eval x = .int .i64 n)
    {k : Nat} (hk : k = min n m) : (execOp a.eval o).run P w = .ok (.value (.int .i64 k)) w := by
  subst hk
  have e : (if (m : Int) < n then (m : Int) else n) = ((min n m : Nat) : Int) := by
    by_cases hk : m < n
    · rw [if_pos (by omega), Nat.min_eq_right (by omega)]
    · rw [if_neg (by omega), Nat.min_eq_left (by omega)]
  have hc : a.eval (.const (.int .i64 m)) = .int .i64 m := rfl
  unfold execOp
  simp only [ho, resolve, invoke, builtin, Sem.run_bind, Sem.run_pure, Result.andThen_ok, List.map_toArray, List.map_cons, List.map_nil, hx, hc, Builtin.min_, Builtin.min2, List.foldlM_cons, List.foldlM_nil, e]
end
theorem ownC_empty {α : Type} (K : Nat) (enc : α → List Value) (e : TypeId) (w : World) (lo : Nat) (hlo : lo ≤ w.heap.size) : OwnC K enc e lo (w.alloc (.cells #[] e)) (.slice (some ⟨w.heap.size, 0, none⟩) 0 0) [] :=
  ⟨⟨by simp, .inr ⟨w.heap.size, 0, #[], rfl, hlo, heap_alloc_new w _, by simp, by simp [maxLen], by simp, by simp⟩⟩, by simp⟩
end Go.Proofs.Ythihffglkheleaa
