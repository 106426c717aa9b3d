/- Contracts of tile.Runs and runs.Size: how many runs, how many bytes. -/
import Derived.Test.YthihffglkheleaaTd
set_option linter.unusedVariables false
set_option linter.unusedSimpArgs false
namespace Go.Proofs.Ythihffglkheleaa
open Go.RowKit

@[reducible] def cA (c : Col) : Array Value := #[e8 c.1, e8 c.2.1, e8 c.2.2.1, e8 c.2.2.2]
theorem BoxA.cells {w : World} {b : Nat} {ty : TypeId} {c : Col} (h : BoxA w b ty (cA c)) :
    (w.cell? ⟨b, 0, none⟩ = some (e8 c.1) ∧ w.cell? ⟨b, 1, none⟩ = some (e8 c.2.1) ∧ w.cell? ⟨b, 2, none⟩ = some (e8 c.2.2.1) ∧ w.cell? ⟨b, 3, none⟩ = some (e8 c.2.2.2)) ∧
    w.frozen? ⟨b, 0, none⟩ = false ∧ w.frozen? ⟨b, 1, none⟩ = false ∧ w.frozen? ⟨b, 2, none⟩ = false ∧ w.frozen? ⟨b, 3, none⟩ = false := by
  refine ⟨⟨?_, ?_, ?_, ?_⟩, h.free _, h.free _, h.free _, h.free _⟩ <;> rw [h.cell] <;> rfl
theorem BoxA.setC {w : World} {b : Nat} {ty : TypeId} {c : Col} (h : BoxA w b ty (cA c)) (d : Col) :
    BoxA ((((w.setCell ⟨b, 0, none⟩ (e8 d.1)).setCell ⟨b, 1, none⟩ (e8 d.2.1)).setCell ⟨b, 2, none⟩ (e8 d.2.2.1)).setCell ⟨b, 3, none⟩ (e8 d.2.2.2)) b ty (cA d) :=
  (((h.set 0 _).set 1 _).set 2 _).set 3 _
theorem chg_setC (M : Nat → Prop) (w : World) (b : Nat) (v0 v1 v2 v3 : Value) (hb : M b) :
    Chg M w ((((w.setCell ⟨b, 0, none⟩ v0).setCell ⟨b, 1, none⟩ v1).setCell ⟨b, 2, none⟩ v2).setCell ⟨b, 3, none⟩ v3) :=
  ((((Chg.refl M w).setCell (p := ⟨b, 0, none⟩) (.inl hb) _).setCell (p := ⟨b, 1, none⟩) (.inl hb) _).setCell (p := ⟨b, 2, none⟩) (.inl hb) _).setCell (p := ⟨b, 3, none⟩) (.inl hb) _

set_option maxHeartbeats 4000000 in
theorem rn_Runs1 (b : Nat) (x c : Col) (w : World) (hb : BoxA w b 27 (cA c)) :
    Calls Try.prog 39 #[vC x, .pointer (some ⟨b, 0, none⟩)] w fun e w' => e = .returned (.bool (decide (x ≠ c))) ∧ Chg (fun k => k = b) w w' ∧ BoxA w' b 27 (cA x) := by
  have hn := new_alloc w (.cells (cA x) 27)
  obtain ⟨⟨c0, c1, c2, c3⟩, z0, z1, z2, z3⟩ := (hb.later hn).cells
  have hx := BoxA.new w 27 (cA x)
  obtain ⟨⟨x0, x1, x2, x3⟩, _⟩ := hx.cells
  have HB := Lib.hid (hb.later hn)
  have HN := Lib.hid hn
  have hne := run_neC x c
  clear hb hn hx
  go_enter Try.func39, Try.ntmps39
  go_wp2_with fail
  go_ret
  refine ⟨by simp, ?_, HB.out.setC x⟩
  exact (HN.out.chg _).trans (chg_setC _ _ _ _ _ _ _ rfl)

set_option maxRecDepth 100000 in
set_option maxHeartbeats 4000000 in
theorem rn_many (p b : Nat) (t : List Col) (c : Col) (w : World) (ht : t.length = 64) (hp : BoxA w p 29 (tcA t)) (hb : BoxA w b 27 (cA c)) (hpb : p ≠ b) :
    Calls Try.prog 38 #[.slice (some ⟨p, 0, none⟩) 64 64, .func (.func 39) #[] #[.pointer (some ⟨b, 0, none⟩)]] w fun e w' => e = .returned (.int .i64 (chgs c t)) ∧ Chg (fun k => k = b) w w' := by
  have HP := Lib.hid hp
  have HB := Lib.hid hb
  have HT := Lib.hid ht
  have HPB := Lib.hid hpb
  have HCL := Lib.hid (Nat.le_trans (chgs_le t c) (Nat.le_of_eq ht))
  clear hp hb ht hpb
  obtain ⟨tot, htot⟩ : ∃ n, n = chgs c t := ⟨_, rfl⟩
  rw [← htot] at HCL ⊢
  have HTOT := Lib.hid htot
  clear htot
  go_enter Try.func38, Try.ntmps38
  go_wp2_with fail
  go_loopw [5, 10] (fun a i wr => ∃ (n k : Nat) (cur : Col), k ≤ 64 ∧ a = .int .i64 n ∧ i = .int .i64 k ∧ Hid (n + chgs cur (t.drop k) = tot) ∧ Hid (Chg (fun k => k = b) w wr) ∧ Hid (BoxA wr b 27 (cA cur))) (fun _ i _ => 64 - (intOf i).toNat)
  case atStart => exact ⟨0, 0, c, by omega, rfl, rfl, Lib.hid (by simp [HTOT.out]), Lib.hid (Chg.refl _ _), HB⟩
  case round =>
    obtain ⟨n, k, cur, hk, rfl, rfl, HS, HC, HB1⟩ := hrel
    by_cases hlt : k < 64
    · have hkl : k < t.length := by have := HT.out; omega
      obtain ⟨x0, x1, x2, x3⟩ := (HP.out.chg HC.out HPB.out).col k hkl
      have hs := HS.out
      rw [List.drop_eq_getElem_cons hkl, chgs] at hs
      generalize t[k] = x at *
      have hnb : n ≤ 64 := by have := HCL.out; omega
      have HS2 := Lib.hid hs
      have HN := Lib.hid (new_alloc wr (.cells (cA x) 27))
      clear hs hkl
      by_cases he : x = cur
      · subst he
        go_wp2_with (go_at_call 39; ((with_reducible refine (rn_Runs1 b x x _ (HB1.out.later HN.out)).mono ?_); rw [show decide (x ≠ x) = false by simp]; rintro e w1 ⟨rfl, hC1, hB2⟩; have HC1 := Lib.hid ((HC.out.new HN.out).trans hC1); have HB2 := Lib.hid hB2; clear hC1 hB2))
        go_roundw
        case rel => exact ⟨n, k + 1, x, by omega, rfl, by go_num, Lib.hid (by have := HS2.out; simpa using this), HC1, HB2⟩
        case measure => simp [intOf]; omega
      · have HNE := Lib.hid he
        have hde : decide (x ≠ cur) = true := by simp [he]
        have HDE := Lib.hid hde
        clear he hde
        go_wp2_with (go_at_call 39; ((with_reducible refine (rn_Runs1 b x cur _ (HB1.out.later HN.out)).mono ?_); rw [HDE.out]; rintro e w1 ⟨rfl, hC1, hB2⟩; have HC1 := Lib.hid ((HC.out.new HN.out).trans hC1); have HB2 := Lib.hid hB2; clear hC1 hB2))
        go_roundw
        case rel => exact ⟨n + 1, k + 1, x, by omega, by go_num, by go_num, Lib.hid (by have := HS2.out; rw [if_neg HNE.out] at this; omega), HC1, HB2⟩
        case measure => simp [intOf]; omega
    · have HK := Lib.hid (show k = t.length by have := HT.out; omega)
      have hn : n = tot := by have h := HS.out; rw [HK.out, List.drop_length, chgs] at h; omega
      subst hn
      go_wp2
      go_ret
      exact ⟨rfl, HC.out⟩

def blankC : Col := (⟨0, by omega⟩, ⟨0, by omega⟩, ⟨0, by omega⟩, ⟨0, by omega⟩)
def blankT : List Col := List.replicate 64 blankC
theorem blankT_length : blankT.length = 64 := by simp [blankT]
theorem zero_tile : (Try.prog.info? 29).map (fun i => (i.zero, i.size)) = some (some (.agg (tcA blankT)), 256) := by kernel_rfl
theorem tcA_one (t : List Col) : (tcA t).all (·.oneCell') = true := by
  rw [tcA, List.all_toArray, List.all_eq_true]
  intro x hx
  obtain ⟨c, _, hc⟩ := List.mem_flatMap.1 hx
  simp only [cc, List.mem_cons, List.not_mem_nil, or_false] at hc
  rcases hc with rfl | rfl | rfl | rfl <;> rfl
section
variable {ops : Array Oper} {rest : List Oper} {o : Oper} {a : Act} {Q : Exit → Act → World → Prop}
theorem wpl_alloc_tile {w : World} (hgd : o.guard = none) (ho : o.op = .alloc 29)
    (h : wpList Try.prog ops Q rest (a.put o.dst (.pointer (some ⟨w.heap.size, 0, none⟩))) (w.alloc (.cells (tcA blankT) 29))) : wpList Try.prog ops Q (o :: rest) a w := by
  refine wpList_plain hgd fun K hK => ?_
  have hz := (zero_of_info zero_tile).1
  unfold Oper.wp execOp
  simp only [ho]
  simp [Instr.alloc, hz, newVar, newRow, Value.cells, go_sem]
  exact hK _ _ h
/-- a tile out of a part of a block -/
theorem wpl_load_tile {w : World} (hgd : o.guard = none) (x : Operand) (ho : o.op = .load 29 x) (b off : Nat) (hx : a.eval x = .pointer (some ⟨b, off, none⟩)) (t : List Col) (ht : t.length = 64)
    (hc : ∀ j, j < 256 → w.cell? ⟨b, off + j, none⟩ = (tcl t)[j]?) (h : wpList Try.prog ops Q rest (a.put o.dst (.agg (tcA t))) w) : wpList Try.prog ops Q (o :: rest) a w := by
  refine wpList_plain hgd fun K hK => ?_
  have hl : (tcl t).length = 256 := by rw [tcl_length, ht]
  have hr := run_loadCells_list (P := Try.prog) w ⟨b, off, none⟩ (tcl t) (fun j v hv => by
    have hj : j < 256 := by rcases Nat.lt_or_ge j 256 with h | h; exact h; rw [List.getElem?_eq_none (by omega)] at hv; cases hv
    rw [addr_plain, hc j hj, hv])
  rw [hl] at hr
  unfold Oper.wp execOp
  simp only [ho, hx, Instr.loadAt, Instr.sureAddr, Sem.run_bind, Sem.run_pure, Result.andThen_ok, loadVar, Try.isAgg29, Try.sizeOf29, if_true, hr]
  exact hK _ _ h
/-- a tile into a block -/
theorem wpl_store_tile {w : World} (hgd : o.guard = none) (x y : Operand) (ho : o.op = .store 29 x y) (b : Nat) (hx : a.eval x = .pointer (some ⟨b, 0, none⟩)) (t : List Col) (ht : t.length = 64) (hy : a.eval y = .agg (tcA t))
    {old : Array Value} (hb : BoxA w b 29 old) (ho' : old.size = 256) (h : wpList Try.prog ops Q rest (a.put o.dst undef) (w.setRow b (tcA t))) : wpList Try.prog ops Q (o :: rest) a w :=
  wpList_store_row hgd 29 x y ho b (tcA t) hx hy 29 old hb (size_tc ht) (by rw [ho', tcA_size, ht]) (tcA_one t) h
end
theorem BoxA.setRow {w : World} {b : Nat} {ty : TypeId} {cs : Array Value} (h : BoxA w b ty cs) (cs' : Array Value) : BoxA (w.setRow b cs') b ty cs' := by
  unfold BoxA at h ⊢
  have hl := (Array.getElem?_eq_some_iff.1 h).1
  rw [Array.getElem?_eq_getElem hl] at h
  injection h with h
  simp only [World.setRow, Array.getElem?_modify, if_true]
  rw [Array.getElem?_eq_getElem hl]
  simp [h]
theorem chg_setRow (M : Nat → Prop) (w : World) (b : Nat) (cs : Array Value) (hb : M b) : Chg M w (w.setRow b cs) :=
  ⟨rfl, rfl, rfl, by simp [World.setRow], fun k _ hk => setRow_other w b k _ (fun e => hk (e ▸ hb))⟩

set_option maxRecDepth 100000 in
set_option maxHeartbeats 4000000 in
theorem rn_Runs (t : List Col) (w : World) (ht : t.length = 64) :
    Calls Try.prog 17 #[.agg (tcA t)] w fun e w' => e = .returned (.int .i64 (1 + chgs (t[0]'(by omega)) t)) ∧ New w w' := by
  have hb := BoxA.new w 29 (tcA t)
  have h0 : 0 < t.length := by omega
  obtain ⟨x0, x1, x2, x3⟩ := hb.col 0 h0
  have hcl := chgs_le t (t[0]'h0)
  have HM := Lib.hid (fun p b W hp hb hpb => rn_many p b t (t[0]'h0) W ht hp hb hpb)
  have hcl2 : chgs (t[0]'h0) t ≤ 64 := by omega
  clear hcl
  generalize t[0]'h0 = c at *
  generalize chgs c t = n at *
  have hn1 := new_alloc (w.alloc (.cells (tcA t) 29)) (.cells (cA c) 27)
  have hb2 := BoxA.new (w.alloc (.cells (tcA t) 29)) 27 (cA c)
  rw [World.size_alloc] at hb2
  have HB1 := Lib.hid (hb.later hn1)
  have HB2 := Lib.hid hb2
  have HN := Lib.hid ((new_alloc w (.cells (tcA t) 29)).alloc (.cells (cA c) 27))
  have hmf := hmf
  clear hb hb2 hn1 ht
  generalize tcA t = cs at *
  go_enter Try.func17, Try.ntmps17
  go_wp2_with (go_at_call 38; ((with_reducible refine (HM.out _ _ _ HB1.out HB2.out (by omega)).mono ?_); rintro e w1 ⟨rfl, hC⟩; have HC := Lib.hid hC; clear hC))
  go_ret
  exact ⟨rfl, HN.out.trans' HC.out (fun k hk => by omega)⟩
end Go.Proofs.Ythihffglkheleaa
