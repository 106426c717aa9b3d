/- Contract of the reference of runs: Tile. -/
import Derived.Test.YthihffglkheleaaSb
import Derived.Test.YthihffglkheleaaTg
set_option linter.unusedVariables false
set_option linter.unusedSimpArgs false
namespace Go.Proofs.Ythihffglkheleaa
open Go.RowKit

section
variable {ops : Array Oper} {rest : List Oper} {o : Oper} {a : Act} {Q : Exit → Act → World → Prop}
/-- a colour out of a tile -/
theorem wpl_index_tile {w : World} (hgd : o.guard = none) (x y : Operand) (ho : o.op = .index 29 x y) (t : List Col) (ht : t.length = 64) (i : Nat) (hi : i < t.length) (k : IntKind) (hx : a.eval x = .agg (tcA t)) (hy : a.eval y = .int k (i : Int))
    (h : wpList Try.prog ops Q rest (a.put o.dst (vC t[i])) w) : wpList Try.prog ops Q (o :: rest) a w := by
  refine wpList_plain hgd fun K hK => ?_
  have hp := run_part t i hi w
  have h64 : i < 64 := by omega
  unfold Oper.wp execOp
  simp only [ho, hx, hy]
  simp [Instr.index, asIntOf, run_underlying Try.underlying29, Try.sizeOf27, h64, hp, Result.andThen]
  exact hK _ _ h
end
/-- where the walk of the reference stands -/
def refAt (t : List Col) (out : List U8) (m i : Nat) : Prop := (∀ h : i < t.length, tileB t = out ++ rleK (m + 1) t[i] (t.drop (i + 1))) ∧ (i = t.length → tileB t = out)
theorem refAt_start (t : List Col) (h : 0 < t.length) : refAt t [] 0 0 := by
  cases t with
  | nil => simp at h
  | cons c l => exact ⟨fun _ => by simp [tileB], fun h => by simp at h⟩
theorem refAt_last {t : List Col} {out : List U8} {m i : Nat} (h : refAt t out m i) (hi : i < t.length) (hl : i + 1 = t.length) : refAt t (out ++ runB (m + 1) t[i]) 0 (i + 1) := by
  refine ⟨fun h' => by omega, fun _ => ?_⟩
  rw [h.1 hi, List.drop_of_length_le (by omega), rleK]
theorem refAt_same {t : List Col} {out : List U8} {m i : Nat} (h : refAt t out m i) (hi : i + 1 < t.length) (he : t[i + 1] = t[i]'(by omega)) : refAt t out (m + 1) (i + 1) := by
  refine ⟨fun h' => ?_, fun h' => by omega⟩
  rw [h.1 (by omega), List.drop_eq_getElem_cons hi, rleK, if_pos he, he]
theorem refAt_other {t : List Col} {out : List U8} {m i : Nat} (h : refAt t out m i) (hi : i + 1 < t.length) (he : ¬ t[i + 1] = t[i]'(by omega)) : refAt t (out ++ runB (m + 1) (t[i]'(by omega))) 0 (i + 1) := by
  refine ⟨fun h' => ?_, fun h' => by omega⟩
  rw [h.1 (by omega), List.drop_eq_getElem_cons hi, rleK, if_neg he, List.append_assoc]

set_option maxRecDepth 100000 in
set_option maxHeartbeats 4000000 in
theorem ref_Tile (t : List Col) (w : World) (ht : t.length = 64) :
    Calls Try.prog 12 #[.agg (tcA t)] w (OutS (tileB t) w) := by
  have hb := BoxA.new w 29 (tcA t)
  have HB := Lib.hid hb
  have HT := Lib.hid ht
  have HS := Lib.hid (size_tc ht)
  have HA := Lib.hid (refAt_start t (by omega))
  have HN0 := Lib.hid (new_alloc w (.cells (tcA t) 29))
  clear hb ht
  obtain ⟨R, hR⟩ : ∃ R, R = tileB t := ⟨_, rfl⟩
  rw [← hR]
  have HR := Lib.hid hR
  clear hR
  go_enter Try.func12, Try.ntmps12
  go_wp2_with (refine wpList_load_row rfl 29 (.tmp 1) rfl _ rfl _ (tcA t) (0, 0) _ HB.out Try.underlying29 rfl HS.out ?_)
  go_loopw [3, 4, 8] (fun b d e wr => ∃ (i m : Nat) (out : List U8) (A1 : Option Addr) (c1 : Nat), i ≤ 64 ∧ m ≤ i ∧ b = .slice A1 out.length c1 ∧ d = .int .i64 m ∧ e = .int .i64 i ∧ Hid (Own e8 5 (w.heap.size + 1) wr (.slice A1 out.length c1) out) ∧ Hid (New (w.alloc (.cells (tcA t) 29)) wr) ∧ Hid (refAt t out m i) ∧ Hid (out.length ≤ 5 * i)) (fun _ _ e _ => 64 - (intOf e).toNat)
  case atStart => exact ⟨0, 0, [], none, 0, by omega, by omega, rfl, rfl, rfl, Lib.hid (Own.nil _ _ _ _), Lib.hid (new_refl _), HA, Lib.hid (by simp)⟩
  case round =>
    obtain ⟨i, m, out, A1, c1, hi, hm, rfl, rfl, rfl, HO, HC, HAT, HOL⟩ := hrel
    by_cases hlt : i < 64
    · have hil : i < t.length := by have := HT.out; omega
      have HB1 := Lib.hid (HB.out.later HC.out)
      have hnc := new_alloc wr (.cells (cA t[i]) 27)
      have HNC := Lib.hid hnc
      obtain ⟨⟨k0, k1, k2, k3⟩, _⟩ := (BoxA.new wr 27 (cA t[i])).cells
      have HT2 := HT
      have ht2 := HT.out
      by_cases h63 : i = 63
      · have hd1 : ((i : Int) == 63) = true := by simp [h63]
        have HN := Lib.hid (refAt_last HAT.out hil (by omega))
        clear hnc
        generalize hc : t[i] = c at *
        have HCI := Lib.hid hc
        clear hc h63 ht2
        go_wp2_with (refine wpl_index_tile rfl (.tmp 7) (.tmp 8) rfl t HT2.out i hil .i64 rfl rfl ?_; rw [HCI.out])
        go_quiet (fail)
        have HO1 := Lib.hid ((HO.out.new HNC.out).chg (drewN_chg (fun _ => False) _ nq) (fun _ _ h => h))
        have HC1 := Lib.hid ((HC.out.trans HNC.out).trans' (drewN_chg (fun _ => False) _ nq) (fun _ _ h => h))
        have HOa := Lib.hid (HO.out.new HNC.out)
        have HCa := Lib.hid (HC.out.trans HNC.out)
        have HLO := Lib.hid (show w.heap.size + 1 ≤ wr.heap.size by have := HC.out.size; simpa using this)
        have HU : Hid (∀ W : World, Rd e8 0 (W.heap.size + 1) (W.alloc (.cells #[.int .u8 ((m : Int) + 1), e8 c.1, e8 c.2.1, e8 c.2.2.1, e8 c.2.2.2] 5)) (.slice (some ⟨W.heap.size, 0, none⟩) 5 5) (runB (m + 1) c)) := Lib.hid (fun W => by
          rw [show (m : Int) + 1 = (n8 (m + 1)).1 by rw [n8_val _ (by omega)]; omega]
          exact rd_new5 _ _ _ _ _ _ _)
        have hua := HU.out (wr.alloc (.cells (cA c) 27))
        rw [World.size_alloc] at hua
        have HUa := Lib.hid hua
        clear hua
        go_wp2_with (at_builtin; refine wpl_append (enc := e8) (ys := runB (m + 1) c) rfl (.tmp 24) (.tmp 35) rfl Try.underlying23 info_u8 rfl (fun _ => rfl) rfl rfl ((HOa.out.new (new_alloc _ _)).chg (drewN_chg (fun _ => False) _ nq) (fun _ _ h => h)) (HUa.out.chg (drewN_chg (fun _ => False) _ nq) (fun _ _ _ h => h)) (by have := HOL.out; simp [runB]; omega) (by have := HOL.out; simp [runB]; omega) (by have := HLO.out; simp; omega) ?_)
        simp only [← List.length_append]
        intro A' c' w2 ho2 hg _
        have HO2 := Lib.hid ho2
        have HC2 := Lib.hid (HCa.out.trans' ((((Chg.refl (fun k => w.heap.size + 1 ≤ k) _).drewN nq).alloc _).grown hg (fun k hk => .inl (HOa.out.lt k hk).1)) (fun k hk => by simp at hk; omega))
        have HL2 : Hid ((out ++ runB (m + 1) c).length ≤ 5 * (i + 1)) := Lib.hid (by have := HOL.out; simp [runB]; omega)
        clear ho2 hg
        generalize out ++ runB (m + 1) c = out2 at *
        go_wp2
        go_roundw
        case rel => exact ⟨i + 1, 0, out2, A', c', by omega, by omega, rfl, rfl, by go_num, HO2, HC2, HN, HL2⟩
        case measure => simp [intOf]; omega
      · have hil2 : i + 1 < t.length := by omega
        obtain ⟨z0, z1, z2, z3⟩ := (HB1.out.later hnc).col (i + 1) hil2
        have hd1 : ((i : Int) == 63) = false := by simp; omega
        have hi64 : (i : Int) + 1 < 64 := by omega
        have HSM := Lib.hid (fun he => refAt_same HAT.out hil2 he)
        have HOT := Lib.hid (fun he => refAt_other HAT.out hil2 he)
        clear hnc h63 ht2
        generalize hc : t[i] = c at *
        generalize t[i + 1] = d at *
        have HCI := Lib.hid hc
        clear hc
        by_cases he : d = c
        · have hne : ∀ W, (binOp .neq 27 (vC d) (vC c)).run Try.prog W = .ok (.bool false) W := fun W => by rw [run_neC, decide_eq_false (fun h => h he)]
          have HSM2 : Hid (refAt t out (m + 1) (i + 1)) := Lib.hid (HSM.out he)
          clear he HSM HOT
          go_wp2_with (refine wpl_index_tile rfl (.tmp 7) (.tmp 8) rfl t HT2.out i hil .i64 rfl rfl ?_; rw [HCI.out])
          go_quiet (fail)
          have HO1 := Lib.hid ((HO.out.new HNC.out).chg (drewN_chg (fun _ => False) _ nq) (fun _ _ h => h))
          have HC1 := Lib.hid ((HC.out.trans HNC.out).trans' (drewN_chg (fun _ => False) _ nq) (fun _ _ h => h))
          have HOa := Lib.hid (HO.out.new HNC.out)
          have HCa := Lib.hid (HC.out.trans HNC.out)
          have HLO := Lib.hid (show w.heap.size + 1 ≤ wr.heap.size by have := HC.out.size; simpa using this)
          have HU : Hid (∀ W : World, Rd e8 0 (W.heap.size + 1) (W.alloc (.cells #[.int .u8 ((m : Int) + 1), e8 c.1, e8 c.2.1, e8 c.2.2.1, e8 c.2.2.2] 5)) (.slice (some ⟨W.heap.size, 0, none⟩) 5 5) (runB (m + 1) c)) := Lib.hid (fun W => by
            rw [show (m : Int) + 1 = (n8 (m + 1)).1 by rw [n8_val _ (by omega)]; omega]
            exact rd_new5 _ _ _ _ _ _ _)
          have hua := HU.out (wr.alloc (.cells (cA c) 27))
          rw [World.size_alloc] at hua
          have HUa := Lib.hid hua
          clear hua
          go_wp2
          go_roundw
          case rel => exact ⟨i + 1, m + 1, out, A1, c1, by omega, by omega, rfl, by go_num, by go_num, Lib.hid (HO1.out.mono (by omega)), HC1, HSM2, Lib.hid (by have := HOL.out; omega)⟩
          case measure => simp [intOf]; omega
        · have hne := run_neC_ne he
          have HN : Hid (refAt t (out ++ runB (m + 1) c) 0 (i + 1)) := Lib.hid (HOT.out he)
          clear he HSM HOT
          go_wp2_with (refine wpl_index_tile rfl (.tmp 7) (.tmp 8) rfl t HT2.out i hil .i64 rfl rfl ?_; rw [HCI.out])
          go_quiet (fail)
          have HO1 := Lib.hid ((HO.out.new HNC.out).chg (drewN_chg (fun _ => False) _ nq) (fun _ _ h => h))
          have HC1 := Lib.hid ((HC.out.trans HNC.out).trans' (drewN_chg (fun _ => False) _ nq) (fun _ _ h => h))
          have HOa := Lib.hid (HO.out.new HNC.out)
          have HCa := Lib.hid (HC.out.trans HNC.out)
          have HLO := Lib.hid (show w.heap.size + 1 ≤ wr.heap.size by have := HC.out.size; simpa using this)
          have HU : Hid (∀ W : World, Rd e8 0 (W.heap.size + 1) (W.alloc (.cells #[.int .u8 ((m : Int) + 1), e8 c.1, e8 c.2.1, e8 c.2.2.1, e8 c.2.2.2] 5)) (.slice (some ⟨W.heap.size, 0, none⟩) 5 5) (runB (m + 1) c)) := Lib.hid (fun W => by
            rw [show (m : Int) + 1 = (n8 (m + 1)).1 by rw [n8_val _ (by omega)]; omega]
            exact rd_new5 _ _ _ _ _ _ _)
          have hua := HU.out (wr.alloc (.cells (cA c) 27))
          rw [World.size_alloc] at hua
          have HUa := Lib.hid hua
          clear hua
          go_wp2_with (at_builtin; refine wpl_append (enc := e8) (ys := runB (m + 1) c) rfl (.tmp 24) (.tmp 35) rfl Try.underlying23 info_u8 rfl (fun _ => rfl) rfl rfl ((HOa.out.new (new_alloc _ _)).chg (drewN_chg (fun _ => False) _ nq) (fun _ _ h => h)) (HUa.out.chg (drewN_chg (fun _ => False) _ nq) (fun _ _ _ h => h)) (by have := HOL.out; simp [runB]; omega) (by have := HOL.out; simp [runB]; omega) (by have := HLO.out; simp; omega) ?_)
          simp only [← List.length_append]
          intro A' c' w2 ho2 hg _
          have HO2 := Lib.hid ho2
          have HC2 := Lib.hid (HCa.out.trans' ((((Chg.refl (fun k => w.heap.size + 1 ≤ k) _).drewN nq).alloc _).grown hg (fun k hk => .inl (HOa.out.lt k hk).1)) (fun k hk => by simp at hk; omega))
          have HL2 : Hid ((out ++ runB (m + 1) c).length ≤ 5 * (i + 1)) := Lib.hid (by have := HOL.out; simp [runB]; omega)
          clear ho2 hg
          generalize out ++ runB (m + 1) c = out2 at *
          go_wp2
          go_roundw
          case rel => exact ⟨i + 1, 0, out2, A', c', by omega, by omega, rfl, rfl, by go_num, HO2, HC2, HN, HL2⟩
          case measure => simp [intOf]; omega
    · have HK : Hid (i = t.length) := Lib.hid (by have := HT.out; omega)
      obtain rfl : R = out := HR.out.trans (HAT.out.2 HK.out)
      have hge : 64 ≤ i := by omega
      go_wp2
      go_ret
      exact ⟨A1, c1, rfl, HN0.out.trans HC.out, HO.out.mono (by omega)⟩
end Go.Proofs.Ythihffglkheleaa
