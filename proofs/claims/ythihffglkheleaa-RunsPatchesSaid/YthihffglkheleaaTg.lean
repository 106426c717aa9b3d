/- Tiles are compared; the tile ahead, and of another canvas. -/
import Derived.Test.YthihffglkheleaaTf
import Derived.ChangeKeysEq
set_option linter.unusedVariables false
set_option linter.unusedSimpArgs false
namespace Go.Proofs.Ythihffglkheleaa
open Go.RowKit

theorem run_equalC (c d : Col) (w : World) : (Op.equalIn 9999 27 (vC c) (vC d)).run Try.prog w = .ok (decide (c = d)) w := by
  obtain ⟨⟨r, _⟩, ⟨g, _⟩, ⟨b, _⟩, ⟨a, _⟩⟩ := c
  obtain ⟨⟨r', _⟩, ⟨g', _⟩, ⟨b', _⟩, ⟨a', _⟩⟩ := d
  by_cases h1 : r = r' <;> by_cases h2 : g = g' <;> by_cases h3 : b = b' <;> by_cases h4 : a = a' <;> simp [go_sem, h1, h2, h3, h4]
theorem tcA_extract (t : List Col) (i : Nat) (hi : i < t.length) : (tcA t).extract (i * 4) (i * 4 + 4) = cA t[i] := by
  apply Array.ext_getElem?
  intro j
  by_cases hj : j < 4
  · have h := tcl_get t i hi j hj
    have h2 : (tcA t)[i * 4 + j]? = (tcl t)[i * 4 + j]? := by simp [tcA]
    rw [Array.getElem?_extract, if_pos (by rw [tcA_size]; omega), h2, h]
    simp [cc, cA]
  · have h1 : ((tcA t).extract (i * 4) (i * 4 + 4)).size ≤ j := by simp; omega
    rw [Array.getElem?_eq_none h1, Array.getElem?_eq_none (by simp [cA]; omega)]
theorem run_part (t : List Col) (i : Nat) (hi : i < t.length) (w : World) : (part 27 (tcA t) (i * 4)).run Try.prog w = .ok (vC t[i]) w := by
  simp only [part, Sem.run_bind, Try.isAgg27, Try.sizeOf27, Result.andThen_ok, if_true, Sem.run_pure, tcA_extract t i hi]
theorem run_eqItems (xs ys : List Col) (w : World) : ∀ (is : List Nat) (hx : ∀ i ∈ is, i < xs.length) (hy : ∀ i ∈ is, i < ys.length),
    (Op.eqItems 9999 27 4 (tcA xs) (tcA ys) is).run Try.prog w = .ok (is.all fun i => decide (xs[i]? = ys[i]?)) w
  | [], _, _ => by simp [Op.eqItems]
  | i :: is, hx, hy => by
    have hx0 := hx i (by simp)
    have hy0 := hy i (by simp)
    have h1 := run_part xs i hx0 w
    have h2 := run_part ys i hy0 w
    have ih := run_eqItems xs ys w is (fun j hj => hx j (by simp [hj])) (fun j hj => hy j (by simp [hj]))
    simp only [Op.eqItems, Sem.run_bind, h1, h2, Result.andThen_ok, run_equalC, List.all_cons, List.getElem?_eq_getElem hx0, List.getElem?_eq_getElem hy0, Option.some.injEq]
    by_cases he : xs[i] = ys[i]
    · simp only [he, decide_true, Bool.not_true, Bool.false_eq_true, if_false, ih, Bool.true_and]
    · simp only [he, decide_false, Bool.not_false, if_true, Sem.run_pure, Bool.false_and]
theorem cellsOf_color : Try.prog.cellsOf 27 = 4 := by kernel_rfl
theorem run_equalT (xs ys : List Col) (hx : xs.length = 64) (hy : ys.length = 64) (w : World) : (Op.equalIn 10000 29 (.agg (tcA xs)) (.agg (tcA ys))).run Try.prog w = .ok (decide (xs = ys)) w := by
  obtain ⟨i, hi, _⟩ := Option.map_eq_some_iff.1 (show (Try.prog.info? 27).map (·.size) = some 4 by kernel_rfl)
  rw [show (10000 : Nat) = 9999 + 1 from rfl, run_equalIn_array w 9999 (tcA xs) (tcA ys) Try.underlying29 hi, cellsOf_color, run_eqItems xs ys w (List.range 64) (fun i h => by rw [hx]; exact List.mem_range.1 h) (fun i h => by rw [hy]; exact List.mem_range.1 h)]
  congr 1
  rw [Bool.eq_iff_iff, List.all_eq_true, decide_eq_true_eq]
  constructor
  · intro h
    apply List.ext_getElem?
    intro j
    by_cases hj : j < 64
    · simpa using h j (List.mem_range.2 hj)
    · rw [List.getElem?_eq_none (by omega), List.getElem?_eq_none (by omega)]
  · rintro rfl i h
    simp
theorem run_eqT (xs ys : List Col) (hx : xs.length = 64) (hy : ys.length = 64) (w : World) : (binOp .eql 29 (.agg (tcA xs)) (.agg (tcA ys))).run Try.prog w = .ok (.bool (decide (xs = ys))) w := by
  rw [run_eql_struct, run_equalT xs ys hx hy]
  rfl
theorem run_neT (xs ys : List Col) (hx : xs.length = 64) (hy : ys.length = 64) (w : World) : (binOp .neq 29 (.agg (tcA xs)) (.agg (tcA ys))).run Try.prog w = .ok (.bool (decide (xs ≠ ys))) w := by
  rw [run_neq_struct, run_equalT xs ys hx hy]
  by_cases h : xs = ys <;> simp [h, Result.andThen]
section
variable {ops : Array Oper} {rest : List Oper} {o : Oper} {a : Act} {Q : Exit → Act → World → Prop}
theorem wpl_build_tile {w : World} (hgd : o.guard = none) (ho : o.op = .build 29 #[]) (h : wpList Try.prog ops Q rest (a.put o.dst (.agg (tcA blankT))) w) : wpList Try.prog ops Q (o :: rest) a w := by
  refine wpList_plain hgd fun K hK => ?_
  have hz := (zero_of_info zero_tile).1
  have h27 := Try.sizeOf27
  unfold Oper.wp execOp
  simp only [ho]
  simp [Instr.build, hz, run_underlying Try.underlying29, h27, Instr.fill, Value.cells]
  exact hK _ _ h
end

/-- the tile ahead of the k-th -/
def zA (ts : List (List Col)) (k : Nat) : List Col := if k = 0 then blankT else ts.getD (k - 1) blankT
def zP (ts : List (List Col)) (k : Nat) : List Col := ts.getD k blankT
theorem zA_length {ts : List (List Col)} (h : ∀ t ∈ ts, t.length = 64) (k : Nat) : (zA ts k).length = 64 := by
  unfold zA
  split
  · exact blankT_length
  · rw [List.getD]
    cases hk : ts[k - 1]? with
    | none => exact blankT_length
    | some t => exact h t (List.mem_of_getElem? hk)
theorem zP_length {ts : List (List Col)} (h : ∀ t ∈ ts, t.length = 64) (k : Nat) : (zP ts k).length = 64 := by
  unfold zP
  rw [List.getD]
  cases hk : ts[k]? with
  | none => exact blankT_length
  | some t => exact h t (List.mem_of_getElem? hk)

set_option maxRecDepth 100000 in
set_option maxHeartbeats 4000000 in
theorem rn_ahead1 (lo hi : Nat) (v : Value) (ts : List (List Col)) (p k : Nat) (w : World) (hv : RdT lo hi w v ts) (hp : Box w p 22 v) (hk : k ≤ ts.length) :
    Calls Try.prog 60 #[.int .i64 k, .pointer (some ⟨p, 0, none⟩)] w fun e w' => e = .returned (.agg (tcA (zA ts k))) ∧ New w w' := by
  obtain ⟨A, c, rfl, h1, h2⟩ := hv.form
  have HV := Lib.hid hv
  have HZ := Lib.hid (zA_length hv.2 k)
  have cp := (hp.alloc (.cells (tcA blankT) 29)).cell
  have HW := Lib.hid (size_tc blankT_length)
  clear hv hp
  have HR : ∀ t : List Col, t.length = 64 → Hid (BoxA ((w.alloc (.cells (tcA blankT) 29)).setRow w.heap.size (tcA t)) w.heap.size 29 (tcA t)) := fun t ht => Lib.hid ((BoxA.new w 29 (tcA blankT)).setRow _)
  have HB := Lib.hid HR
  clear HR
  by_cases h0 : k = 0
  · have hk0 : ((k : Int) == 0) = true := by simp [h0]
    have hz : zA ts k = blankT := by rw [zA, if_pos h0]
    rw [hz]
    clear h0 hz
    go_enter Try.func60, Try.ntmps60
    go_wp2_with (first
      | (refine wpl_alloc_tile rfl rfl ?_)
      | (refine wpl_build_tile rfl rfl ?_)
      | (refine wpl_store_tile rfl (.tmp 3) (.tmp 6) rfl _ rfl blankT blankT_length rfl (BoxA.new _ _ _) (by simp [tcA_size, blankT_length]) ?_))
    refine bodyPost_ret (v := .agg (tcA blankT)) (results_cell_row rfl _ _ _ _ _ _ _ rfl (HB.out _ blankT_length).out Try.underlying29 rfl HW.out) rfl ⟨rfl, ?_⟩
    exact (new_refl w).trans' ((Chg.refl (fun k => k = w.heap.size) w).alloc _ |>.trans (chg_setRow _ _ _ _ rfl)) (fun k hk => by omega)
  · have hk0 : ((k : Int) == 0) = false := by simp; omega
    obtain ⟨j, rfl⟩ : ∃ j, k = j + 1 := ⟨k - 1, by omega⟩
    have hj : j < ts.length := by omega
    obtain ⟨b, off, e, _, _, hc, ht⟩ := HV.out.at_ j hj
    subst e
    have hz : zA ts (j + 1) = ts[j] := by rw [zA, if_neg (by omega)]; simp [List.getD, hj]
    rw [hz]
    have hc2 : ∀ i, i < 256 → (w.alloc (.cells (tcA blankT) 29)).cell? ⟨b, off + j * 256 + i, none⟩ = (tcl ts[j])[i]? := fun i hi => by
      have h := ((HV.out.new (new_alloc w (.cells (tcA blankT) 29))).at_ j hj)
      obtain ⟨b', off', e', _, _, hc', _⟩ := h
      injection e' with e'
      injection e' with e1 e2
      subst e1 e2
      exact hc' i hi
    have HC := Lib.hid hc2
    have HT := Lib.hid ht
    have hst := Lib.hid (size_tc ht)
    clear hc hc2 ht h0 HW hz
    have hj2 : ((j + 1 : Nat) : Int) - 1 = (j : Int) := by omega
    have hj3 : ((j : Int) + 1) - 1 = (j : Int) := by omega
    generalize ts[j] = t at *
    go_enter Try.func60, Try.ntmps60
    go_wp2_with (first
      | (refine wpl_alloc_tile rfl rfl ?_)
      | (refine wpl_load_tile rfl (.tmp 10) rfl _ _ rfl t HT.out HC.out ?_)
      | (refine wpl_store_tile rfl (.tmp 3) (.tmp 11) rfl _ rfl t HT.out rfl (BoxA.new _ _ _) (by simp [tcA_size, blankT_length]) ?_))
    refine bodyPost_ret (v := .agg (tcA t)) (results_cell_row rfl _ _ _ _ _ _ _ rfl (HB.out t HT.out).out Try.underlying29 rfl hst.out) rfl ⟨rfl, ?_⟩
    exact (new_refl w).trans' ((Chg.refl (fun k => k = w.heap.size) w).alloc _ |>.trans (chg_setRow _ _ _ _ rfl)) (fun k hk => by omega)
end Go.Proofs.Ythihffglkheleaa
