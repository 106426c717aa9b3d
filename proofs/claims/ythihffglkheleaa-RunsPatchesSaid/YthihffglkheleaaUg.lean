/- Plain laws of patches; words for variables of canvases. -/
import Derived.Test.YthihffglkheleaaUf
import Derived.Test.YthihffglkheleaaBk
set_option linter.unusedVariables false
set_option linter.unusedSimpArgs false
namespace Go.Proofs.Ythihffglkheleaa
open Go.RowKit

theorem readPa_canvB {wa ha : Int} {ta tb : List (List Col)} (hr : rightB wa ha tb.length = true) (ht : ∀ t ∈ tb, t.length = 64) (more : List U8) :
    readPa wa ha ta (canvB wa ha (ZP ta) tb ++ more) = some (wa, ha, tb, (canvB wa ha (ZP ta) tb).length) := by
  obtain ⟨_, hn, hs⟩ := right_len wa ha tb.length hr
  obtain ⟨h1, h2, h3, h4⟩ := sizes_bounds hs
  have e1 : (u8 wa).1 = wa := u8_val wa (by omega) (by omega)
  have e2 : (u8 ha).1 = ha := u8_val ha (by omega) (by omega)
  have hc : canvB wa ha (ZP ta) tb ++ more = u8 wa :: u8 ha :: (bytesC (ZP ta) [] tb ++ more) := by simp [canvB]
  have hrd := rdC_bytesC (ZP ta) more tb [] ht
  rw [List.nil_append] at hrd
  rw [hc]
  simp only [readPa, e1, e2, and_self, if_true]
  rw [← hn, Int.toNat_natCast, hrd]
  simp only [Option.map_some, Option.some.injEq, Prod.mk.injEq, true_and]
  simp [canvB]
  omega
theorem bytesC_same (ta : List (List Col)) : ∀ (l done : List (List Col)), done ++ l = ta → (bytesC (ZP ta) done l).length = l.length
  | [], _, _ => by simp [bytesC]
  | t :: l, done, h => by
    have hz : t = ZP ta done := by
      rw [ZP, ← h]
      simp [List.getD]
    rw [bytesC, if_pos hz, List.length_append, bytesC_same ta l (done ++ [t]) (by rw [← h]; simp)]
    simp
    omega
theorem canvB_same (wa ha : Int) (ta : List (List Col)) : (canvB wa ha (ZP ta) ta).length = 2 + ta.length := by
  rw [canvB_length, bytesC_same ta ta [] rfl]
theorem patchI_ok {wa ha : Int} {ta : List (List Col)} {wb hb : Int} {tb : List (List Col)} (h : (patchI wa ha ta wb hb tb).2 = 0) : wa = wb ∧ ha = hb ∧ rightB wa ha ta.length = true ∧ rightB wb hb tb.length = true ∧ patchI wa ha ta wb hb tb = (canvB wb hb (ZP ta) tb, 0) := by
  unfold patchI at h ⊢
  split at h
  · next h1 =>
    split at h
    · next h2 =>
      split at h
      · next h3 => exact ⟨h3.1, h3.2, h1, h2, by rw [if_pos h1, if_pos h2, if_pos h3]⟩
      · cases h
    · cases h
  · cases h
theorem patchI_no {wa ha : Int} {ta : List (List Col)} {wb hb : Int} {tb : List (List Col)} (h : ¬ (patchI wa ha ta wb hb tb).2 = 0) : (patchI wa ha ta wb hb tb).1 = [] := by
  unfold patchI at h ⊢
  split
  · next h1 =>
    rw [if_pos h1] at h
    split
    · next h2 =>
      rw [if_pos h2] at h
      split
      · next h3 => rw [if_pos h3] at h; exact absurd rfl h
      · rfl
    · rfl
  · rfl
/-- From two canvases that may be, of the same sizes, a third one has patches of the same error. -/
theorem patchI_err {wa ha : Int} {ta tb tc : List (List Col)} {wc hc : Int} (ha' : rightB wa ha ta.length = true) (hb' : rightB wa ha tb.length = true) : (patchI wa ha tb wc hc tc).2 = (patchI wa ha ta wc hc tc).2 := by
  unfold patchI
  rw [if_pos ha', if_pos hb']
  split
  · split <;> rfl
  · rfl
theorem OwnC.apart {α : Type} {K : Nat} {enc : α → List Value} {e : TypeId} {lo : Nat} {w : World} {v : Value} {xs : List α} (h : OwnC K enc e lo w v xs) {q : Nat} {ty : TypeId} {cs : Array Value} (hb : BoxA w q ty cs) (hne : e ≠ ty) : ∀ k, v.ownBlock = some k → k ≠ q := by
  rintro k hk rfl
  obtain ⟨⟨_, h2⟩, _⟩ := h
  rcases h2 with ⟨rfl, _⟩ | ⟨g, cap, cur, rfl, _, hg, _⟩
  · cases hk
  · simp only [Value.ownBlock, Option.some.injEq] at hk
    subst hk
    have h3 : w.heap[g]? = some (.cells cs ty (0, 0)) := hb
    rw [hg] at h3
    injection h3 with h3
    injection h3 with _ h3
    exact hne h3
theorem Own.apart {α : Type} {enc : α → Value} {e : TypeId} {lo : Nat} {w : World} {v : Value} {xs : List α} (h : Own enc e lo w v xs) {q : Nat} {ty : TypeId} {cs : Array Value} (hb : BoxA w q ty cs) (hne : e ≠ ty) : ∀ k, v.ownBlock = some k → k ≠ q := by
  rintro k hk rfl
  obtain ⟨_, h2⟩ := h
  rcases h2 with ⟨rfl, _⟩ | ⟨g, cap, cur, rfl, _, hg, _⟩
  · cases hk
  · simp only [Value.ownBlock, Option.some.injEq] at hk
    subst hk
    have h3 : w.heap[g]? = some (.cells cs ty (0, 0)) := hb
    rw [hg] at h3
    injection h3 with h3
    injection h3 with _ h3
    exact hne h3
/-- zero of a canvas -/
abbrev zC : Array Value := #[.int .i64 0, .int .i64 0, .slice none 0 0]
abbrev cC (wd hg : Int) (A : Option Addr) (n c : Nat) : Array Value := #[.int .i64 wd, .int .i64 hg, .slice A n c]
section
variable {o : Oper} {a : Act} {w : World} {K : Act → World → Prop} {Q : Exit → Act → World → Prop} {ops : Array Oper} {rest : List Oper}
/-- a canvas is stored -/
theorem wp_store_C (x y : Operand) (ho : o.op = .store 43 x y) (q : Nat) (hx : a.eval x = .pointer (some ⟨q, 0, none⟩)) (wd hg : Int) (A : Option Addr) (n c : Nat) (hy : a.eval y = vCv wd hg A n c) {u0 u1 u2 : Value} (hb : BoxA w q 43 #[u0, u1, u2])
    (h : ∀ w', BoxA w' q 43 (cC wd hg A n c) → Chg (fun k => k = q) w w' → K (a.put o.dst undef) w') : o.wp Try.prog a w K Q := by
  have hth : w.there q 0 3 := fun j hj => by
    obtain ⟨c0, c1, c2, f⟩ := hb.of3
    rw [Nat.zero_add]
    refine ⟨?_, f j⟩
    match j, hj with
    | 0, _ => rw [c0]; rfl
    | 1, _ => rw [c1]; rfl
    | 2, _ => rw [c2]; rfl
  exact wp_store_mid 43 x y ho q 0 (cC wd hg A n c) hx hy hth size_canvas (by simp [Value.oneCell']) (h _ (hb.set3 _ _ _) (chg_set3 _ _ _ _ _ _ (.inl rfl)))
theorem wp_append8 {ts : Array TypeId} (s x : Operand) (ho : o.op = .call { callee := .builtin .append, args := #[s, x], argTypes := #[23, 23] }) {lo lo' hi' : Nat} {v u : Value} {xs ys : List U8} (hs : a.eval s = v) (hx : a.eval x = u) (hv : Own e8 5 lo w v xs) (hu : Rd e8 lo' hi' w u ys)
    (hl : xs.length + ys.length ≤ 140737488355328) (hlo : lo ≤ w.heap.size)
    (h : ∀ A' c' w', Own e8 5 lo w' (.slice A' (xs.length + ys.length) c') (xs ++ ys) → w.grownBy w' v.ownBlock → K (a.put o.dst (.slice A' (xs.length + ys.length) c')) w') : o.wp Try.prog a w K Q := by
  obtain ⟨i0, hi, hzz⟩ := Option.map_eq_some_iff.1 info_u8
  simp only [Prod.mk.injEq] at hzz
  obtain ⟨hz0, hz1, hz2⟩ := hzz
  obtain ⟨v', w', hr, h2, h3, h5⟩ := append_rd (P := Try.prog) (ty := o.type) Try.underlying23 hi hz0 hz1 hz2 rfl (fun _ => rfl) hv hu (by omega) (by omega) hlo
  obtain ⟨A', c', hA, _, _⟩ := (h2.rd (Nat.le_refl _)).form
  subst hA
  rw [List.length_append] at hr h2 h5
  unfold Oper.wp execOp
  simp only [ho, resolve, invoke, builtin, Sem.run_bind, Sem.run_pure, Result.andThen_ok, List.map_toArray, List.map_cons, List.map_nil, hs, hx, hr]
  exact h A' c' w' h2 h3
theorem wplG_store_C (hw : Region.wanted o (yielded ops a.tmps) = true) (x y : Operand) (ho : o.op = .store 43 x y) (q : Nat) (hx : a.eval x = .pointer (some ⟨q, 0, none⟩)) (wd hg : Int) (A : Option Addr) (n c : Nat) (hy : a.eval y = vCv wd hg A n c) {u0 u1 u2 : Value} (hb : BoxA w q 43 #[u0, u1, u2])
    (h : ∀ w', BoxA w' q 43 (cC wd hg A n c) → Chg (fun k => k = q) w w' → wpList Try.prog ops Q rest (a.put o.dst undef) w') : wpList Try.prog ops Q (o :: rest) a w :=
  wplG hw (wp_store_C x y ho q hx wd hg A n c hy hb h)
end
/-- what has come up of 'a, b, c := own(x), own(y), own(z)' -/
def J3 (W0 : World) (wa ha : Int) (ta : List (List Col)) (wb hb : Int) (tb : List (List Col)) (wc hc : Int) (tc : List (List Col)) (a0 : Act) (listed : Array Bool) (a : Act) (w : World) : Prop :=
  ∃ (u29 u31 u33 u7 u8 u9 : Value) (q7 q8 q9 : Nat),
    a = (((((a0.put (some 29) u29).put (some 31) u31).put (some 33) u33).put (some 7) u7).put (some 8) u8).put (some 9) u9 ∧
    (listed.getD 1 false = true → ∃ A c, u29 = vCv wa ha A ta.length c ∧ OwnT W0.heap.size w (.slice A ta.length c) ta) ∧
    (listed.getD 3 false = true → ∃ A c, u31 = vCv wb hb A tb.length c ∧ OwnT W0.heap.size w (.slice A tb.length c) tb) ∧
    (listed.getD 5 false = true → ∃ A c, u33 = vCv wc hc A tc.length c ∧ OwnT W0.heap.size w (.slice A tc.length c) tc) ∧
    (listed.getD 6 false = true → u7 = .pointer (some ⟨q7, 0, none⟩) ∧ BoxA w q7 43 zC ∧ W0.heap.size ≤ q7) ∧
    (listed.getD 7 false = true → u8 = .pointer (some ⟨q8, 0, none⟩) ∧ BoxA w q8 43 zC ∧ W0.heap.size ≤ q8) ∧
    (listed.getD 8 false = true → u9 = .pointer (some ⟨q9, 0, none⟩) ∧ BoxA w q9 43 zC ∧ W0.heap.size ≤ q9) ∧
    (listed.getD 6 false = true → listed.getD 7 false = true → q7 ≠ q8) ∧ (listed.getD 6 false = true → listed.getD 8 false = true → q7 ≠ q9) ∧ (listed.getD 7 false = true → listed.getD 8 false = true → q8 ≠ q9)
/-- what has come up of 'got, n, f := runs.Apply(a, append(slices.Clone(p), 7, 7))' -/
def J7 (W0 : World) (wa ha : Int) (tb : List (List Col)) (pb : List U8) (a0 : Act) (listed : Array Bool) (a : Act) (w : World) : Prop :=
  ∃ (u48 u49 u50 u51 u12 u45 u52 u53 u54 u13 u14 : Value) (q12 : Nat) (A5 : Option Addr) (c5 : Nat),
    a = ((((((((((a0.put (some 48) u48).put (some 49) u49).put (some 50) u50).put (some 51) u51).put (some 12) u12).put (some 45) u45).put (some 52) u52).put (some 53) u53).put (some 54) u54).put (some 13) u13).put (some 14) u14 ∧
    (listed.getD 2 false = true → listed.getD 4 false = false → ∃ A c, u48 = .slice A pb.length c ∧ Own e8 5 W0.heap.size w (.slice A pb.length c) pb) ∧
    (listed.getD 3 false = true → listed.getD 4 false = false → ∃ A, u49 = .slice A 2 2 ∧ Rd e8 W0.heap.size w.heap.size w (.slice A 2 2) [n8 7, n8 7]) ∧
    (listed.getD 4 false = true → listed.getD 5 false = false → ∃ A c, u50 = .slice A (pb.length + 2) c ∧ Rd e8 0 w.heap.size w (.slice A (pb.length + 2) c) (pb ++ [n8 7, n8 7])) ∧
    (listed.getD 5 false = true → u51 = .tuple #[vCv wa ha A5 tb.length c5, .int .i64 pb.length, .int .i64 0] ∧ OwnT W0.heap.size w (.slice A5 tb.length c5) tb) ∧
    (listed.getD 5 false = true → listed.getD 4 false = true) ∧
    (listed.getD 10 false = true → u12 = .pointer (some ⟨q12, 0, none⟩) ∧ W0.heap.size ≤ q12) ∧
    (listed.getD 10 false = true → listed.getD 11 false = false → BoxA w q12 43 zC) ∧
    (listed.getD 11 false = true → BoxA w q12 43 (cC wa ha A5 tb.length c5)) ∧
    (listed.getD 6 false = true → u45 = .tuple #[vCv wa ha A5 tb.length c5, .int .i64 pb.length, .int .i64 0]) ∧
    (listed.getD 7 false = true → u52 = vCv wa ha A5 tb.length c5) ∧ (listed.getD 8 false = true → u53 = .int .i64 pb.length) ∧ (listed.getD 9 false = true → u54 = .int .i64 0) ∧
    (listed.getD 12 false = true → u13 = .int .i64 pb.length) ∧ (listed.getD 13 false = true → u14 = .int .i64 0) ∧
    (listed.getD 6 false = true → listed.getD 5 false = true) ∧ (listed.getD 7 false = true → listed.getD 5 false = true) ∧ (listed.getD 11 false = true → listed.getD 5 false = true) ∧ (listed.getD 11 false = true → listed.getD 10 false = true)
end Go.Proofs.Ythihffglkheleaa
