/- Contract of the reference of runs: ReadTile. -/
import Derived.Test.YthihffglkheleaaSd
import Derived.Test.YthihffglkheleaaTp
set_option linter.unusedVariables false
set_option linter.unusedSimpArgs false
namespace Go.Proofs.Ythihffglkheleaa
open Go.RowKit
attribute [local irreducible] wpStill

theorem drop5' (bs : List U8) (p : Nat) (h : p + 5 ≤ bs.length) : bs.drop p = bs[p] :: bs[p + 1] :: bs[p + 2] :: bs[p + 3] :: bs[p + 4] :: bs.drop (p + 5) := by
  rw [List.drop_eq_getElem_cons (by omega), List.drop_eq_getElem_cons (i := p + 1) (by omega), List.drop_eq_getElem_cons (i := p + 2) (by omega), List.drop_eq_getElem_cons (i := p + 3) (by omega), List.drop_eq_getElem_cons (i := p + 4) (by omega)]
/-- A tile, how many bytes. -/
def OutRR (r : Option (List Col × Nat)) (w : World) (e : Ending) (w' : World) : Prop :=
  New w w' ∧ e = .returned (.tuple #[.agg (tcA (match r with | some x => x.1 | none => blankT)), .int .i64 (match r with | some x => (x.2 : Int) | none => 0)])
set_option maxRecDepth 100000 in
set_option maxHeartbeats 4000000 in
theorem ref_ReadTile (lo hi : Nat) (v : Value) (bs : List U8) (w : World) (hv : Rd e8 lo hi w v bs) (hl : bs.length ≤ 1099511627776) :
    Calls Try.prog 15 #[v] w (OutRR (readT bs) w) := by
  obtain ⟨A, c, rfl, h1, h2⟩ := hv.form
  have hn0 := (new_alloc w (.cells (tcA blankT) 29)).alloc (.cells (tcA blankT) 29)
  have HV := Lib.hid (hv.new hn0)
  have HB2 := Lib.hid ((BoxA.new w 29 (tcA blankT)).later (new_alloc _ (.cells (tcA blankT) 29)))
  have hb3 := BoxA.new (w.alloc (.cells (tcA blankT) 29)) 29 (tcA blankT)
  rw [World.size_alloc] at hb3
  have HB3 := Lib.hid hb3
  have HN0 := Lib.hid hn0
  have HHI := Lib.hid hv
  obtain ⟨R, hR⟩ : ∃ R, R = readT bs := ⟨_, rfl⟩
  rw [← hR]
  have HR := Lib.hid hR
  clear hR hv hb3 hn0
  go_enter Try.func15, Try.ntmps15
  go_wp2_with (refine wpl_alloc_tile rfl rfl ?_)
  generalize (w.alloc (.cells (tcA blankT) 29)).alloc (.cells (tcA blankT) 29) = W0 at *
  go_loopw [5, 6] (fun a b wr => ∃ (n p : Nat) (cur : List Col), n ≤ 64 ∧ p ≤ bs.length ∧ a = .int .i64 p ∧ b = .int .i64 n ∧ Hid (cur.length = 64) ∧ Hid (BoxA wr (w.heap.size + 1) 29 (tcA cur)) ∧ Hid (RefR bs cur n p) ∧ Hid (Chg (fun k => k = w.heap.size + 1) W0 wr)) (fun _ b _ => 64 - (intOf b).toNat)
  case atStart => exact ⟨0, 0, blankT, by omega, by omega, rfl, rfl, Lib.hid blankT_length, HB3, Lib.hid (by simp [RefR]), Lib.hid (Chg.refl _ _)⟩
  case round =>
    obtain ⟨n, p, cur, hn, hp, rfl, rfl, HCL, HBT, HAT, HC1⟩ := hrel
    have HB2' := Lib.hid (HB2.out.chg HC1.out (by omega))
    by_cases hlt : n < 64
    · by_cases h5 : p + 5 ≤ bs.length
      · have hb := drop5' bs p h5
        obtain ⟨b5, o5, c5, he5, _, _, hb5, _, _, hc5⟩ := HHI.out.at_ p (by omega)
        injection he5 with e1 _ _
        subst e1
        have x0 := hc5 p (by omega)
        have x1 := hc5 (p + 1) (by omega)
        have x2 := hc5 (p + 2) (by omega)
        have x3 := hc5 (p + 3) (by omega)
        have x4 := hc5 (p + 4) (by omega)
        have HX : Hid (∀ W, Chg (fun k => k = w.heap.size + 1) W0 W → ∀ j, W.cell? ⟨b5, j, none⟩ = w.cell? ⟨b5, j, none⟩) := Lib.hid (fun W h j => World.cell?_of_block ((h.block b5 (Nat.lt_of_lt_of_le hb5 HN0.out.size) (by omega)).trans (HN0.out.block b5 hb5)))
        generalize bs[p] = m at *
        generalize bs[p + 1] = r at *
        generalize bs[p + 2] = gg at *
        generalize bs[p + 3] = u at *
        generalize bs[p + 4] = a at *
        have HXS := Lib.hid (And.intro x1 (And.intro x2 (And.intro x3 x4)))
        have y0 := (HX.out _ HC1.out _).trans x0
        have HBD := Lib.hid hb
        have d1 : decide ((bs.length : Int) < (p : Int) + 5) = false := by simp; omega
        have hwm : IntKind.i64.wrap m.1 = m.1 := by have := m.2; rw [IntKind.wrap_i64]; omega
        have hm255 := m.2.2
        have hm0 := m.2.1
        clear hb hc5 x0 x1 x2 x3 x4 hb5
        by_cases g1 : m.1 = 0
        · have d2 : (m.1 == 0) = true := by simp [g1]
          obtain rfl : R = none := HR.out.trans (readT_of_none (HAT.out.no hlt HBD.out (fun h => by omega)))
          clear g1
          go_wp2_with (first
            | (refine wpl_build_tile rfl rfl ?_)
            | (refine wpl_store_tile rfl (.tmp 2) (.tmp 32) rfl _ rfl blankT blankT_length rfl HB2'.out (by simp [tcA_size, blankT_length]) ?_))
          have hld := (HB2'.out.setRow (tcA blankT)).load blankT_length
          refine bodyPost_ret (v := .tuple #[.agg (tcA blankT), .int .i64 0]) (by simp [results, Try.results15, asAddr, hld]) rfl ⟨?_, rfl⟩
          exact chg_new (M := fun _ => False) (M' := fun k => k = w.heap.size + 1 ∨ k = w.heap.size) HN0.out ((HC1.out.mono (fun _ _ h => .inl h)).trans ((chg_setRow (fun k => k = w.heap.size) _ w.heap.size (tcA blankT) rfl).mono (fun _ _ h => .inr h))) (fun i hi h => by omega) |>.below (Nat.le_refl _) (fun _ _ h => h)
        · have d2 : (m.1 == 0) = false := by simpa using g1
          by_cases g2 : (n : Int) + m.1 ≤ 64
          · have d3 : decide (64 < (n : Int) + m.1) = false := by simpa using g2
            have HY : Hid (∀ cur', cur'.take (n + m.1.toNat) = cur.take n ++ List.replicate m.1.toNat (r, gg, u, a) → RefR bs cur' (n + m.1.toNat) (p + 5)) := Lib.hid (fun cur' h => HAT.out.yes hlt HBD.out (by omega) h)
            have hm1 : (1 : Int) ≤ m.1 := by omega
            clear g1
            go_wp2_with fail
            go_loopw [6, 38] (fun b i wr' => ∃ (j : Nat) (cur' : List Col), (j : Int) ≤ m.1 ∧ b = .int .i64 ((n : Int) + j) ∧ i = .int .i64 j ∧ Hid (cur'.length = 64) ∧ Hid (BoxA wr' (w.heap.size + 1) 29 (tcA cur')) ∧ Hid (cur'.take (n + j) = cur.take n ++ List.replicate j (r, gg, u, a)) ∧ Hid (Chg (fun k => k = w.heap.size + 1) W0 wr')) (fun _ i _ => m.1.toNat - (intOf i).toNat)
            case atStart => exact ⟨0, cur, by omega, by go_num, rfl, HCL, HBT, Lib.hid (by simp), HC1⟩
            case round =>
              obtain ⟨j, cur', hj, rfl, rfl, HCL', HBT', HTK, HCJ⟩ := hrel
              by_cases hjl : (j : Int) < m.1
              · have hd1 : decide ((j : Int) < m.1) = true := by simpa using hjl
                have hnj : n + j < cur'.length := by have := HCL'.out; omega
                obtain ⟨z0, z1, z2, z3⟩ := HBT'.out.col (n + j) hnj
                have f0 := HBT'.out.free ((n + j) * 4)
                have f1 := HBT'.out.free ((n + j) * 4 + 1)
                have f2 := HBT'.out.free ((n + j) * 4 + 2)
                have f3 := HBT'.out.free ((n + j) * 4 + 3)
                have v1 := (HX.out _ HCJ.out _).trans HXS.out.1
                have v2 := (HX.out _ HCJ.out _).trans HXS.out.2.1
                have v3 := (HX.out _ HCJ.out _).trans HXS.out.2.2.1
                have v4 := (HX.out _ HCJ.out _).trans HXS.out.2.2.2
                have hi1 : ((n : Int) + (j : Int)).toNat = n + j := by omega
                have hi2 : (0 : Int) ≤ (n : Int) + j := by omega
                have hi3 : (n : Int) + j < 64 := by omega
                have hi4 : n + j < 64 := by omega
                have hw1 : IntKind.i64.wrap ((p : Int) + 1) = (p : Int) + 1 := by rw [IntKind.wrap_i64]; omega
                have hz1 : (0 : Int) ≤ (p : Int) + 1 := by omega
                have ht1 : ((p : Int) + 1).toNat = p + 1 := by omega
                have hw2 : IntKind.i64.wrap ((p : Int) + 2) = (p : Int) + 2 := by rw [IntKind.wrap_i64]; omega
                have hz2 : (0 : Int) ≤ (p : Int) + 2 := by omega
                have ht2 : ((p : Int) + 2).toNat = p + 2 := by omega
                have hw3 : IntKind.i64.wrap ((p : Int) + 3) = (p : Int) + 3 := by rw [IntKind.wrap_i64]; omega
                have hz3 : (0 : Int) ≤ (p : Int) + 3 := by omega
                have ht3 : ((p : Int) + 3).toNat = p + 3 := by omega
                have hw4 : IntKind.i64.wrap ((p : Int) + 4) = (p : Int) + 4 := by rw [IntKind.wrap_i64]; omega
                have hz4 : (0 : Int) ≤ (p : Int) + 4 := by omega
                have ht4 : ((p : Int) + 4).toNat = p + 4 := by omega
                have hp1 : (p : Int) + 1 < bs.length := by omega
                have hp2 : (p : Int) + 2 < bs.length := by omega
                have hp3 : (p : Int) + 3 < bs.length := by omega
                have hp4 : (p : Int) + 4 < bs.length := by omega
                have hset := (HBT'.out.setCol (n + j) hnj (r, gg, u, a))
                have hcs := chg_set4 (fun k => k = w.heap.size + 1) wr (w.heap.size + 1) ((n + j) * 4) (e8 r) (e8 gg) (e8 u) (e8 a) (.inl rfl)
                have HSET := Lib.hid (hset.later (Below.drew (new_refl _)))
                have HCS := Lib.hid ((HCJ.out.trans hcs).drew)
                have HTK2 : Hid ((cur'.set (n + j) (r, gg, u, a)).take (n + (j + 1)) = cur.take n ++ List.replicate (j + 1) (r, gg, u, a)) := Lib.hid (by
                  rw [← Nat.add_assoc, take_snoc _ (n + j) (by rw [List.length_set]; exact hnj), List.take_set_of_le (Nat.le_refl _), HTK.out, List.getElem_set_self, List.replicate_succ', List.append_assoc])
                have HCLS : Hid ((cur'.set (n + j) (r, gg, u, a)).length = 64) := Lib.hid (by rw [List.length_set]; exact HCL'.out)
                clear hset hcs
                go_wp2_with fail
                refine wp_region_still_tail 22 (by kernel_rfl) (by kernel_rfl) ?_
                simp only [List.take_succ_cons, List.take_zero, List.drop_succ_cons, List.drop_zero]
                iterate 22 (refine wpStill_do (by kernel_rfl) (fun K hK => ?_); go_simp; refine hK _ ?_; clear hK K)
                refine wpStill_nil ?_
                change wpList _ _ _ _ _ (World.drew _)
                go_wp2
                go_roundw
                case rel => exact ⟨j + 1, cur'.set (n + j) (r, gg, u, a), by omega, by go_num, by go_num, HCLS, HSET, HTK2, HCS⟩
                case measure => simp [intOf]; omega
              · have hjm : j = m.1.toNat := by omega
                have hd1 : decide ((j : Int) < m.1) = false := by simpa using hjl
                have HY2 := Lib.hid (HY.out cur' (by rw [← hjm]; exact HTK.out))
                rw [← hjm] at HY2
                have hnm : n + j ≤ 64 := by omega
                have hj1 : 1 ≤ j := by omega
                clear hjm
                go_wp2
                go_roundw
                case rel => exact ⟨_, .int .i64 ((p : Int) + 5), .int .i64 ((n : Int) + j), ⟨n + j, hnm, p + 5, h5, by go_num, by go_num, cur', HCL', HBT', HY2⟩, rfl, rfl, rfl⟩
                case measure => simp [intOf]; omega
          · have d3 : decide (64 < (n : Int) + m.1) = true := by simp; omega
            obtain rfl : R = none := HR.out.trans (readT_of_none (HAT.out.no hlt HBD.out (fun h => by omega)))
            go_wp2_with (first
              | (refine wpl_build_tile rfl rfl ?_)
              | (refine wpl_store_tile rfl (.tmp 2) (.tmp 32) rfl _ rfl blankT blankT_length rfl HB2'.out (by simp [tcA_size, blankT_length]) ?_))
            have hld := (HB2'.out.setRow (tcA blankT)).load blankT_length
            refine bodyPost_ret (v := .tuple #[.agg (tcA blankT), .int .i64 0]) (by simp [results, Try.results15, asAddr, hld]) rfl ⟨?_, rfl⟩
            exact chg_new (M := fun _ => False) (M' := fun k => k = w.heap.size + 1 ∨ k = w.heap.size) HN0.out ((HC1.out.mono (fun _ _ h => .inl h)).trans ((chg_setRow (fun k => k = w.heap.size) _ w.heap.size (tcA blankT) rfl).mono (fun _ _ h => .inr h))) (fun i hi h => by omega) |>.below (Nat.le_refl _) (fun _ _ h => h)
      · have d1 : decide ((bs.length : Int) < (p : Int) + 5) = true := by simp; omega
        obtain rfl : R = none := HR.out.trans (readT_of_none (HAT.out.short hlt (by omega)))
        go_wp2_with (first
          | (refine wpl_build_tile rfl rfl ?_)
          | (refine wpl_store_tile rfl (.tmp 2) (.tmp 32) rfl _ rfl blankT blankT_length rfl HB2'.out (by simp [tcA_size, blankT_length]) ?_))
        have hld := (HB2'.out.setRow (tcA blankT)).load blankT_length
        refine bodyPost_ret (v := .tuple #[.agg (tcA blankT), .int .i64 0]) (by simp [results, Try.results15, asAddr, hld]) rfl ⟨?_, rfl⟩
        exact chg_new (M := fun _ => False) (M' := fun k => k = w.heap.size + 1 ∨ k = w.heap.size) HN0.out ((HC1.out.mono (fun _ _ h => .inl h)).trans ((chg_setRow (fun k => k = w.heap.size) _ w.heap.size (tcA blankT) rfl).mono (fun _ _ h => .inr h))) (fun i hi h => by omega) |>.below (Nat.le_refl _) (fun _ _ h => h)
    · have hz := HAT.out
      have HK := Lib.hid (show n = 64 by omega)
      rw [HK.out] at hz
      have HD := Lib.hid (hz.done HCL.out)
      have HSZ := Lib.hid (size_tc HCL.out)
      have HTI := Lib.hid (fun W => ref_Tile cur W HCL.out)
      have HTL := Lib.hid (Nat.le_trans (tileB_le cur) (by rw [HCL.out]; omega : 5 * cur.length ≤ 320))
      clear hz hlt
      have hge : 64 ≤ n := by have := HK.out; omega
      by_cases q1 : (tileB cur).length = p
      · have hq1 : (((tileB cur).length : Int) != (p : Int)) = false := by simp [q1]
        cases q2 : beginsB bs (tileB cur) with
        | false =>
          obtain rfl : R = none := HR.out.trans (readT_of_no HD.out hp (fun h => by rw [q2] at h; exact absurd h.2 (by simp)))
          have HBG := Lib.hid q2
          clear q1 q2
          generalize tileB cur = tb at *
          go_wp2_with (first
            | (refine wpList_load_row rfl 29 (.tmp 4) rfl _ rfl _ (tcA cur) (0, 0) _ HBT.out Try.underlying29 rfl HSZ.out ?_)
            | (go_at_call 12; (with_reducible refine (HTI.out _).mono ?_); rintro e w5 ⟨A5, c5, rfl, hN5, hO5⟩; have HN5 := Lib.hid hN5; have HR5 := Lib.hid (hO5.rd (Nat.le_refl _)); have HB5 := Lib.hid (HB2'.out.later hN5); have HBT5 := Lib.hid (HBT.out.later hN5); have HV5 := Lib.hid ((HHI.out.chg (chg_new (M := fun _ => False) HN0.out HC1.out (fun i hi h => by omega)) (fun _ _ _ h => h)).new hN5); clear hN5 hO5)
            | (go_at_call 35; (with_reducible refine (ref_begins _ _ _ _ _ _ bs tb _ HV5.out HR5.out).mono ?_); rw [HBG.out]; rintro e w6 ⟨rfl, rfl⟩)
            | (refine wpl_build_tile rfl rfl ?_)
            | (refine wpl_store_tile rfl (.tmp 2) (.tmp 80) rfl _ rfl blankT blankT_length rfl HB5.out (by simp [tcA_size, blankT_length]) ?_)
            | (refine wpList_load_row rfl 29 (.tmp 4) rfl _ rfl _ (tcA cur) (0, 0) _ HBT5.out Try.underlying29 rfl HSZ.out ?_)
            | (refine wpl_store_tile rfl (.tmp 2) (.tmp 81) rfl _ rfl cur HCL.out rfl HB5.out (by simp [tcA_size, blankT_length]) ?_))
          have hld := (HB5.out.setRow (tcA blankT)).load blankT_length
          refine bodyPost_ret (v := .tuple #[.agg (tcA blankT), .int .i64 0]) (by simp [results, Try.results15, asAddr, hld]) rfl ⟨?_, rfl⟩
          exact chg_new (M := fun _ => False) (M' := fun k => k = w.heap.size + 1 ∨ k = w.heap.size) HN0.out (((HC1.out.mono (fun _ _ h => .inl h)).new HN5.out).trans ((chg_setRow (fun k => k = w.heap.size) _ w.heap.size (tcA blankT) rfl).mono (fun _ _ h => .inr h))) (fun i hi h => by omega) |>.below (Nat.le_refl _) (fun _ _ h => h)
        | true =>
          obtain rfl : R = some (cur, p) := HR.out.trans (readT_of_yes HD.out hp q1 q2)
          have HBG := Lib.hid q2
          clear q1 q2
          generalize tileB cur = tb at *
          go_wp2_with (first
            | (refine wpList_load_row rfl 29 (.tmp 4) rfl _ rfl _ (tcA cur) (0, 0) _ HBT.out Try.underlying29 rfl HSZ.out ?_)
            | (go_at_call 12; (with_reducible refine (HTI.out _).mono ?_); rintro e w5 ⟨A5, c5, rfl, hN5, hO5⟩; have HN5 := Lib.hid hN5; have HR5 := Lib.hid (hO5.rd (Nat.le_refl _)); have HB5 := Lib.hid (HB2'.out.later hN5); have HBT5 := Lib.hid (HBT.out.later hN5); have HV5 := Lib.hid ((HHI.out.chg (chg_new (M := fun _ => False) HN0.out HC1.out (fun i hi h => by omega)) (fun _ _ _ h => h)).new hN5); clear hN5 hO5)
            | (go_at_call 35; (with_reducible refine (ref_begins _ _ _ _ _ _ bs tb _ HV5.out HR5.out).mono ?_); rw [HBG.out]; rintro e w6 ⟨rfl, rfl⟩)
            | (refine wpl_build_tile rfl rfl ?_)
            | (refine wpl_store_tile rfl (.tmp 2) (.tmp 80) rfl _ rfl blankT blankT_length rfl HB5.out (by simp [tcA_size, blankT_length]) ?_)
            | (refine wpList_load_row rfl 29 (.tmp 4) rfl _ rfl _ (tcA cur) (0, 0) _ HBT5.out Try.underlying29 rfl HSZ.out ?_)
            | (refine wpl_store_tile rfl (.tmp 2) (.tmp 81) rfl _ rfl cur HCL.out rfl HB5.out (by simp [tcA_size, blankT_length]) ?_))
          have hld := (HB5.out.setRow (tcA cur)).load HCL.out
          refine bodyPost_ret (v := .tuple #[.agg (tcA cur), .int .i64 p]) (by simp [results, Try.results15, asAddr, hld]) rfl ⟨?_, rfl⟩
          exact chg_new (M := fun _ => False) (M' := fun k => k = w.heap.size + 1 ∨ k = w.heap.size) HN0.out (((HC1.out.mono (fun _ _ h => .inl h)).new HN5.out).trans ((chg_setRow (fun k => k = w.heap.size) _ w.heap.size (tcA cur) rfl).mono (fun _ _ h => .inr h))) (fun i hi h => by omega) |>.below (Nat.le_refl _) (fun _ _ h => h)
      · have hq1 : (((tileB cur).length : Int) != (p : Int)) = true := by simp; omega
        obtain rfl : R = none := HR.out.trans (readT_of_no HD.out hp (fun h => q1 h.1))
        have HBG : Hid (beginsB bs (tileB cur) = beginsB bs (tileB cur)) := Lib.hid rfl
        clear q1
        generalize tileB cur = tb at *
        go_wp2_with (first
          | (refine wpList_load_row rfl 29 (.tmp 4) rfl _ rfl _ (tcA cur) (0, 0) _ HBT.out Try.underlying29 rfl HSZ.out ?_)
          | (go_at_call 12; (with_reducible refine (HTI.out _).mono ?_); rintro e w5 ⟨A5, c5, rfl, hN5, hO5⟩; have HN5 := Lib.hid hN5; have HR5 := Lib.hid (hO5.rd (Nat.le_refl _)); have HB5 := Lib.hid (HB2'.out.later hN5); have HBT5 := Lib.hid (HBT.out.later hN5); have HV5 := Lib.hid ((HHI.out.chg (chg_new (M := fun _ => False) HN0.out HC1.out (fun i hi h => by omega)) (fun _ _ _ h => h)).new hN5); clear hN5 hO5)
          | (go_at_call 35; (with_reducible refine (ref_begins _ _ _ _ _ _ bs tb _ HV5.out HR5.out).mono ?_); rw [HBG.out]; rintro e w6 ⟨rfl, rfl⟩)
          | (refine wpl_build_tile rfl rfl ?_)
          | (refine wpl_store_tile rfl (.tmp 2) (.tmp 80) rfl _ rfl blankT blankT_length rfl HB5.out (by simp [tcA_size, blankT_length]) ?_)
          | (refine wpList_load_row rfl 29 (.tmp 4) rfl _ rfl _ (tcA cur) (0, 0) _ HBT5.out Try.underlying29 rfl HSZ.out ?_)
          | (refine wpl_store_tile rfl (.tmp 2) (.tmp 81) rfl _ rfl cur HCL.out rfl HB5.out (by simp [tcA_size, blankT_length]) ?_))
        have hld := (HB5.out.setRow (tcA blankT)).load blankT_length
        refine bodyPost_ret (v := .tuple #[.agg (tcA blankT), .int .i64 0]) (by simp [results, Try.results15, asAddr, hld]) rfl ⟨?_, rfl⟩
        exact chg_new (M := fun _ => False) (M' := fun k => k = w.heap.size + 1 ∨ k = w.heap.size) HN0.out (((HC1.out.mono (fun _ _ h => .inl h)).new HN5.out).trans ((chg_setRow (fun k => k = w.heap.size) _ w.heap.size (tcA blankT) rfl).mono (fun _ _ h => .inr h))) (fun i hi h => by omega) |>.below (Nat.le_refl _) (fun _ _ h => h)
end Go.Proofs.Ythihffglkheleaa
