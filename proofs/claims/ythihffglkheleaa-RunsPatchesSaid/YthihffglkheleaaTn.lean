/- Contract of the reader of runs: tile, the walk. -/
import Derived.Test.YthihffglkheleaaTm
set_option linter.unusedVariables false
set_option linter.unusedSimpArgs false
namespace Go.Proofs.Ythihffglkheleaa
open Go.RowKit
attribute [local irreducible] wpStill

theorem chg_new {M M' : Nat → Prop} {a b c : World} (h : New a b) (k : Chg M' b c) (hm : ∀ i, i < a.heap.size → M' i → M i) : Chg M a c :=
  ⟨k.os.trans h.os, k.tape.trans h.tape, k.output.trans h.output, Nat.le_trans h.size k.size, fun i hi hn =>
    (k.block i (Nat.lt_of_lt_of_le hi h.size) (fun e => hn (hm i hi e))).trans (h.block i hi)⟩
theorem New.drew {a b : World} (h : New a b) : New a b.drew := Below.drew h
set_option maxRecDepth 100000 in
set_option maxHeartbeats 4000000 in
theorem rn_tile (Z : Nat × Nat) (g : Nat) (wd hg : Int) (T : Value) (bs : List U8) (p : Nat) (w : World) (hr : IsRd Z w g wd hg T bs p) (hl : bs.length ≤ 1099511627776) :
    Calls Try.prog 34 #[.pointer (some ⟨g, 0, none⟩)] w (TileR Z g wd hg T bs p w) := by
  have hp := hr.2.1
  have HG := Lib.hid hr.lt
  have hn0 := (new_alloc w (.cells (tcA blankT) 29)).alloc (.cells (tcA blankT) 29)
  have HI := Lib.hid (hr.new hn0)
  have HB2 := Lib.hid ((BoxA.new w 29 (tcA blankT)).later (new_alloc _ (.cells (tcA blankT) 29)))
  have hb3 := BoxA.new (w.alloc (.cells (tcA blankT) 29)) 29 (tcA blankT)
  rw [World.size_alloc] at hb3
  have HB3 := Lib.hid hb3
  have HN0 := Lib.hid hn0
  have HAT : Hid (TileAt bs p blankT 0 p) := Lib.hid (by simp [TileAt])
  have hmf := hmf
  clear hr hb3 hn0
  go_enter Try.func34, Try.ntmps34
  go_wp2_with (refine wpl_alloc_tile rfl rfl ?_)
  generalize hW0 : (w.alloc (.cells (tcA blankT) 29)).alloc (.cells (tcA blankT) 29) = W0 at *
  have HS0 := Lib.hid (show w.heap.size + 2 ≤ W0.heap.size by rw [← hW0]; simp)
  clear hW0
  go_loopw [4] (fun i wr => ∃ (n : Nat) (cur : List Col) (p' : Nat), n ≤ 64 ∧ i = .int .i64 n ∧ Hid (cur.length = 64) ∧ Hid (BoxA wr (w.heap.size + 1) 29 (tcA cur)) ∧ Hid (IsRd Z wr g wd hg T bs p') ∧ Hid (TileAt bs p cur n p') ∧ Hid (Chg (fun k => k = g ∨ k = w.heap.size + 1) W0 wr)) (fun i _ => 64 - (intOf i).toNat)
  case atStart => exact ⟨0, blankT, p, by omega, rfl, Lib.hid blankT_length, HB3, HI, HAT, Lib.hid (Chg.refl _ _)⟩
  case round =>
    obtain ⟨n, cur, p', hn, rfl, HCL, HBT, HI1, HAT1, HC1⟩ := hrel
    by_cases hlt : n < 64
    · have hnx := rn_next Z g wd hg T bs p' 5 wr HI1.out hl (by omega)
      have HNX := Lib.hid hnx
      clear hnx
      go_wp2_with fail
      refine HNX.out.mono ?_
      rintro e w1 ⟨hC, ⟨h5, ⟨A, rfl, hRd⟩, hI⟩ | ⟨h5, rfl, hI⟩⟩
      · have HC2 := Lib.hid ((HC1.out.trans (hC.mono (fun _ _ h => .inl h))))
        have HI2 := Lib.hid hI
        have HB2' := Lib.hid (HBT.out.chg hC (by have := HG.out; omega))
        obtain ⟨m, r, gg, u, a, hd5, ht5⟩ := drop5 bs p' h5
        rw [ht5] at hRd
        have HD5 := Lib.hid hd5
        have HRd := Lib.hid hRd
        obtain ⟨b5, o5, c5, he5, _, _, hb5, _, _, hc5⟩ := (hRd.new (Below.drew (new_refl w1))).at_ 0 (by simp)
        injection he5 with e1 _ _
        subst e1
        have x0 := hc5 0 (by simp)
        have x1 := hc5 1 (by simp)
        have x2 := hc5 2 (by simp)
        have x3 := hc5 3 (by simp)
        have x4 := hc5 4 (by simp)
        simp only [Nat.add_zero, List.getElem_cons_zero, List.getElem_cons_succ] at x0 x1 x2 x3 x4
        have hwm : IntKind.i64.wrap m.1 = m.1 := by have := m.2; rw [IntKind.wrap_i64]; omega
        have hm255 := m.2.2
        clear hC hI hRd ht5 hd5 h5 hc5 HNX
        have hb5 : b5 < w1.heap.size := hb5
        have hne5 : ¬ b5 = w1.heap.size := by omega
        have hne6 : ¬ w1.heap.size = b5 := by omega
        have hyA : ∀ cs : Array Value, (w1.alloc (.cells cs 27)).drew.cell? ⟨b5, o5, none⟩ = some (e8 m) ∧ (w1.alloc (.cells cs 27)).drew.cell? ⟨b5, o5 + 1, none⟩ = some (e8 r) ∧ (w1.alloc (.cells cs 27)).drew.cell? ⟨b5, o5 + 2, none⟩ = some (e8 gg) ∧ (w1.alloc (.cells cs 27)).drew.cell? ⟨b5, o5 + 3, none⟩ = some (e8 u) ∧ (w1.alloc (.cells cs 27)).drew.cell? ⟨b5, o5 + 4, none⟩ = some (e8 a) := fun cs => by
          have hk : ∀ j, (w1.alloc (.cells cs 27)).drew.cell? ⟨b5, j, none⟩ = w1.drew.cell? ⟨b5, j, none⟩ := fun j => World.cell?_of_block ((new_alloc w1 (.cells cs 27)).block b5 hb5)
          simp only [hk]
          exact ⟨x0, x1, x2, x3, x4⟩
        go_wp2_with fail
        go_region_held3 (fun w' => w'.cell? ⟨b5, o5, none⟩ = some (e8 m) ∧ w'.cell? ⟨b5, o5 + 1, none⟩ = some (e8 r) ∧ w'.cell? ⟨b5, o5 + 2, none⟩ = some (e8 gg) ∧ w'.cell? ⟨b5, o5 + 3, none⟩ = some (e8 u) ∧ w'.cell? ⟨b5, o5 + 4, none⟩ = some (e8 a))
          (first | exact ⟨x0, x1, x2, x3, x4⟩ | exact hyA _ | go_keep | assumption)
          (fail)
        have hcb := (BoxA.new w1 27 (cA (r, gg, u, a))).later (Below.drew (new_refl _))
        have hn12 : New w1 (w1.alloc (.cells (cA (r, gg, u, a)) 27)).drew := (new_alloc w1 _).drew
        have HI3 := Lib.hid (HI2.out.new hn12)
        have HB3' := Lib.hid (HB2'.out.later hn12)
        have HC3 := Lib.hid (HC2.out.new hn12)
        have HSX := Lib.hid (show W0.heap.size ≤ w1.heap.size from HC2.out.size)
        simp only [cA] at hcb HI3 HB3' HC3
        generalize hW2 : (w1.alloc (.cells #[e8 r, e8 gg, e8 u, e8 a] 27)).drew = W2 at *
        generalize hx1 : w1.heap.size = x1' at *
        have HCB := Lib.hid hcb
        clear hyA hn12 hW2 hcb HRd x0 x1 x2 x3 x4 hne5 hne6 hb5 HI2 HB2' HC2 hx1 HI1
        obtain ⟨⟨y0, y1, y2, y3⟩, _⟩ := (show BoxA W2 x1' 27 (cA (r, gg, u, a)) from HCB.out).cells
        simp only at y0 y1 y2 y3
        have hwn : IntKind.i64.wrap ((n : Int) + m.1) = (n : Int) + m.1 := by rw [IntKind.wrap_i64]; omega
        have hle : m.1.toNat ≤ 64 - n ↔ (n : Int) + m.1 ≤ 64 := by omega
        obtain ⟨c, hc⟩ : ∃ c : Col, c = (r, gg, u, a) := ⟨_, rfl⟩
        by_cases g1 : 0 < m.1
        · have d1 : decide (0 < m.1) = true := by simpa using g1
          by_cases g2 : (n : Int) + m.1 ≤ 64
          · have d2 : decide ((n : Int) + m.1 ≤ 64) = true := by simpa using g2
            by_cases g3 : n = 0
            · have d3 : ((n : Int) == 0) = true := by simp [g3]
              have d4 : (n == 0) = true := by simp [g3]
              have HY : Hid (∀ cur', cur'.take (n + m.1.toNat) = cur.take n ++ List.replicate m.1.toNat (r, gg, u, a) → TileAt bs p cur' (n + m.1.toNat) (p' + 5)) := Lib.hid (fun cur' h => HAT1.out.yes hlt HD5.out ⟨g1, hle.2 g2, by simp [g3]⟩ h)
              have hm1 : (1 : Int) ≤ m.1 := by omega
              clear hle g1 g3
              go_wp2_with fail
              refine wp_region_still_tail 20 (by kernel_rfl) (by kernel_rfl) ?_
              simp only [List.take_succ_cons, List.take_zero, List.drop_succ_cons, List.drop_zero]
              refine wpStill_do (by kernel_rfl) (fun K hK => ?_)
              go_simp
              refine hK _ ?_
              clear hK K
              refine wpStill_do (by kernel_rfl) (fun K hK => ?_)
              go_simp
              refine hK _ ?_
              clear hK K
              refine wpStill_do (by kernel_rfl) (fun K hK => ?_)
              go_simp
              refine hK _ ?_
              clear hK K
              refine wpStill_do (by kernel_rfl) (fun K hK => ?_)
              go_simp
              refine hK _ ?_
              clear hK K
              refine wpStill_do (by kernel_rfl) (fun K hK => ?_)
              go_simp
              refine hK _ ?_
              clear hK K
              refine wpStill_do (by kernel_rfl) (fun K hK => ?_)
              go_simp
              refine hK _ ?_
              clear hK K
              refine wpStill_do (by kernel_rfl) (fun K hK => ?_)
              go_simp
              refine hK _ ?_
              clear hK K
              refine wpStill_do (by kernel_rfl) (fun K hK => ?_)
              go_simp
              refine hK _ ?_
              clear hK K
              refine wpStill_do (by kernel_rfl) (fun K hK => ?_)
              go_simp
              refine hK _ ?_
              clear hK K
              refine wpStill_do (by kernel_rfl) (fun K hK => ?_)
              go_simp
              refine hK _ ?_
              clear hK K
              refine wpStill_do (by kernel_rfl) (fun K hK => ?_)
              go_simp
              refine hK _ ?_
              clear hK K
              refine wpStill_do (by kernel_rfl) (fun K hK => ?_)
              go_simp
              refine hK _ ?_
              clear hK K
              refine wpStill_skip (by kernel_rfl) ?_
              simp only [Act.put, List.setIfInBounds_toArray, List.set_cons_zero, List.set_cons_succ]
              refine wpStill_skip (by kernel_rfl) ?_
              simp only [Act.put, List.setIfInBounds_toArray, List.set_cons_zero, List.set_cons_succ]
              refine wpStill_skip (by kernel_rfl) ?_
              simp only [Act.put, List.setIfInBounds_toArray, List.set_cons_zero, List.set_cons_succ]
              refine wpStill_skip (by kernel_rfl) ?_
              simp only [Act.put, List.setIfInBounds_toArray, List.set_cons_zero, List.set_cons_succ]
              refine wpStill_skip (by kernel_rfl) ?_
              simp only [Act.put, List.setIfInBounds_toArray, List.set_cons_zero, List.set_cons_succ]
              refine wpStill_skip (by kernel_rfl) ?_
              simp only [Act.put, List.setIfInBounds_toArray, List.set_cons_zero, List.set_cons_succ]
              refine wpStill_do (by kernel_rfl) (fun K hK => ?_)
              go_simp
              refine hK _ ?_
              clear hK K
              refine wpStill_do (by kernel_rfl) (fun K hK => ?_)
              go_simp
              refine hK _ ?_
              clear hK K
              refine wpStill_nil ?_
              change wpList _ _ _ _ _ W2.drew
              go_wp2_with (go_at_call 45; (with_reducible refine (rn_need_yes _).mono ?_); rintro e w3 ⟨rfl, rfl⟩)
              have HB4 := Lib.hid (HB3'.out.later (Below.drew (new_refl W2)))
              have HI4 := Lib.hid (HI3.out.new (Below.drew (new_refl W2)))
              have HC4 := Lib.hid (HC3.out.drew)
              have HCB4 := Lib.hid ((show BoxA W2 x1' 27 (cA (r, gg, u, a)) from HCB.out).later (Below.drew (new_refl W2)))
              clear HB3' HI3 HC3 HCB y0 y1 y2 y3
              generalize W2.drew = W3 at *
              go_loopw [4, 54] (fun b i wr => ∃ (j : Nat) (cur' : List Col), (j : Int) ≤ m.1 ∧ b = .int .i64 ((n : Int) + j) ∧ i = .int .i64 j ∧ Hid (cur'.length = 64) ∧ Hid (BoxA wr (w.heap.size + 1) 29 (tcA cur')) ∧ Hid (cur'.take (n + j) = cur.take n ++ List.replicate j (r, gg, u, a)) ∧ Hid (Chg (fun k => k = w.heap.size + 1) W3 wr)) (fun _ i _ => m.1.toNat - (intOf i).toNat)
              case atStart => exact ⟨0, cur, by have := m.2.1; omega, by go_num, rfl, HCL, HB4, Lib.hid (by simp), Lib.hid (Chg.refl _ _)⟩
              case round =>
                obtain ⟨j, cur', hj, rfl, rfl, HCL', HBT', HTK, HCJ⟩ := hrel
                by_cases hjl : (j : Int) < m.1
                · have hd1 : decide ((j : Int) < m.1) = true := by simpa using hjl
                  have hnj : n + j < cur'.length := by have := HCL'.out; omega
                  obtain ⟨x0, x1, x2, x3⟩ := HBT'.out.col (n + j) hnj
                  have f0 := HBT'.out.free ((n + j) * 4)
                  have f1 := HBT'.out.free ((n + j) * 4 + 1)
                  have f2 := HBT'.out.free ((n + j) * 4 + 2)
                  have f3 := HBT'.out.free ((n + j) * 4 + 3)
                  obtain ⟨⟨v0, v1, v2, v3⟩, _⟩ := (HCB4.out.chg HCJ.out (by have := HSX.out; have := HS0.out; omega)).cells
                  simp only at v0 v1 v2 v3
                  have hi1 : ((n : Int) + (j : Int)).toNat = n + j := by omega
                  have hi2 : (0 : Int) ≤ (n : Int) + j := by omega
                  have hi3 : (n : Int) + j < 64 := by omega
                  have hi4 : n + j < 64 := by omega
                  have hset := (HBT'.out.setCol (n + j) hnj (r, gg, u, a))
                  have hcs := chg_set4 (fun k => k = w.heap.size + 1) wr (w.heap.size + 1) ((n + j) * 4) (e8 r) (e8 gg) (e8 u) (e8 a) (.inl rfl)
                  have HSET := Lib.hid hset
                  have HCS := Lib.hid (HCJ.out.trans hcs)
                  have HTK2 : Hid ((cur'.set (n + j) (r, gg, u, a)).take (n + (j + 1)) = cur.take n ++ List.replicate (j + 1) (r, gg, u, a)) := Lib.hid (by
                    rw [← Nat.add_assoc, take_snoc _ (n + j) (by rw [List.length_set]; exact hnj), List.take_set_of_le (Nat.le_refl _), HTK.out, List.getElem_set_self, List.replicate_succ', List.append_assoc])
                  have HCLS : Hid ((cur'.set (n + j) (r, gg, u, a)).length = 64) := Lib.hid (by rw [List.length_set]; exact HCL'.out)
                  clear hset hcs
                  go_wp2
                  go_roundw
                  case rel => exact ⟨j + 1, cur'.set (n + j) (r, gg, u, a), by omega, by go_num, by go_num, HCLS, HSET, HTK2, HCS⟩
                  case measure => simp [intOf]; omega
                · have hjm : j = m.1.toNat := by omega
                  have hd1 : decide ((j : Int) < m.1) = false := by simpa using hjl
                  have HY2 := Lib.hid (HY.out cur' (by rw [← hjm]; exact HTK.out))
                  rw [← hjm] at HY2
                  have HC5 := Lib.hid (HC4.out.trans (HCJ.out.mono (fun _ _ h => .inr h)))
                  have HI5 := Lib.hid (HI4.out.chg HCJ.out (fun k hk => by have := HG.out; have := HI4.out.1; omega))
                  have hnm : n + j ≤ 64 := by omega
                  have hj1 : 1 ≤ j := by omega
                  clear hjm
                  go_wp2
                  go_roundw
                  case rel => exact ⟨n + j, cur', p' + 5, hnm, by go_num, HCL', HBT', HI5, HY2, HC5⟩
                  case measure => simp [intOf]; omega
            · have hj64 : n - 1 < cur.length := by have := HCL.out; omega
              obtain ⟨z0, z1, z2, z3⟩ := HB3'.out.col (n - 1) hj64
              have hgl := getLast_take cur n (by have := HCL.out; omega) (by omega)
              have d3 : ((n : Int) == 0) = false := by simp; omega
              have d4 : (n == 0) = false := by simp; omega
              have hb1 : (0 : Int) ≤ (n : Int) - 1 := by omega
              have hb2 : (n : Int) - 1 < 64 := by omega
              have hb3 : ((n : Int) - 1).toNat = n - 1 := by omega
              have hb0 : (1 : Int) ≤ (n : Int) := by omega
              have hb00 : 1 ≤ n := by omega
              have hb5 : (n : Int) < 65 := by omega
              have hb6 : (n : Int) ≤ 64 := by omega
              have hb7 : n - 1 < 64 := by omega
              have hb4 : IntKind.i64.wrap ((n : Int) - 1) = (n : Int) - 1 := by rw [IntKind.wrap_i64]; omega
              by_cases g4 : cur[n - 1] = (r, gg, u, a)
              · have HNO := Lib.hid (HAT1.out.no hlt HD5.out (fun h => h.2.2 (by rw [hgl, g4])))
                rw [g4] at z0 z1 z2 z3
                simp only at z0 z1 z2 z3
                clear hle hgl g1 g4 g2 g3
                go_wp2_with fail
                refine wp_region_still_tail 20 (by kernel_rfl) (by kernel_rfl) ?_
                simp only [List.take_succ_cons, List.take_zero, List.drop_succ_cons, List.drop_zero]
                refine wpStill_do (by kernel_rfl) (fun K hK => ?_)
                go_simp
                refine hK _ ?_
                clear hK K
                refine wpStill_do (by kernel_rfl) (fun K hK => ?_)
                go_simp
                refine hK _ ?_
                clear hK K
                refine wpStill_do (by kernel_rfl) (fun K hK => ?_)
                go_simp
                refine hK _ ?_
                clear hK K
                refine wpStill_do (by kernel_rfl) (fun K hK => ?_)
                go_simp
                refine hK _ ?_
                clear hK K
                refine wpStill_do (by kernel_rfl) (fun K hK => ?_)
                go_simp
                refine hK _ ?_
                clear hK K
                refine wpStill_do (by kernel_rfl) (fun K hK => ?_)
                go_simp
                refine hK _ ?_
                clear hK K
                refine wpStill_do (by kernel_rfl) (fun K hK => ?_)
                go_simp
                refine hK _ ?_
                clear hK K
                refine wpStill_do (by kernel_rfl) (fun K hK => ?_)
                go_simp
                refine hK _ ?_
                clear hK K
                refine wpStill_do (by kernel_rfl) (fun K hK => ?_)
                go_simp
                refine hK _ ?_
                clear hK K
                refine wpStill_do (by kernel_rfl) (fun K hK => ?_)
                go_simp
                refine hK _ ?_
                clear hK K
                refine wpStill_do (by kernel_rfl) (fun K hK => ?_)
                go_simp
                refine hK _ ?_
                clear hK K
                refine wpStill_do (by kernel_rfl) (fun K hK => ?_)
                go_simp
                refine hK _ ?_
                clear hK K
                refine wpStill_do (by kernel_rfl) (fun K hK => ?_)
                go_simp
                refine hK _ ?_
                clear hK K
                refine wpStill_do (by kernel_rfl) (fun K hK => ?_)
                go_simp
                refine hK _ ?_
                clear hK K
                refine wpStill_do (by kernel_rfl) (fun K hK => ?_)
                go_simp
                refine hK _ ?_
                clear hK K
                refine wpStill_do (by kernel_rfl) (fun K hK => ?_)
                go_simp
                refine hK _ ?_
                clear hK K
                refine wpStill_do (by kernel_rfl) (fun K hK => ?_)
                go_simp
                refine hK _ ?_
                clear hK K
                refine wpStill_do (by kernel_rfl) (fun K hK => ?_)
                go_simp
                refine hK _ ?_
                clear hK K
                refine wpStill_do (by kernel_rfl) (fun K hK => ?_)
                go_simp
                refine hK _ ?_
                clear hK K
                refine wpStill_do (by kernel_rfl) (fun K hK => ?_)
                go_simp
                refine hK _ ?_
                clear hK K
                refine wpStill_nil ?_
                change wpList _ _ _ _ _ W2.drew
                go_wp2_with (go_at_call 45; (with_reducible refine (rn_need_no _).mono ?_); rintro e w3 ⟨rfl, rfl⟩)
                exact ⟨rfl, chg_new HN0.out (HC3.out.drew) (fun i hi h => by rcases h with h | h; exact h; omega), p' + 5, HI3.out.new (Below.drew (new_refl _)), .inr ⟨HNO.out, rfl⟩⟩
              · have HY : Hid (∀ cur', cur'.take (n + m.1.toNat) = cur.take n ++ List.replicate m.1.toNat (r, gg, u, a) → TileAt bs p cur' (n + m.1.toNat) (p' + 5)) := Lib.hid (fun cur' h => HAT1.out.yes hlt HD5.out ⟨g1, hle.2 g2, by rw [hgl]; simpa using g4⟩ h)
                have hneC := run_neC_ne g4
                have hm1 : (1 : Int) ≤ m.1 := by omega
                clear hle hgl g1 g4 g3
                generalize cur[n - 1] = cp at *
                go_wp2_with fail
                refine wp_region_still_tail 20 (by kernel_rfl) (by kernel_rfl) ?_
                simp only [List.take_succ_cons, List.take_zero, List.drop_succ_cons, List.drop_zero]
                refine wpStill_do (by kernel_rfl) (fun K hK => ?_)
                go_simp
                refine hK _ ?_
                clear hK K
                refine wpStill_do (by kernel_rfl) (fun K hK => ?_)
                go_simp
                refine hK _ ?_
                clear hK K
                refine wpStill_do (by kernel_rfl) (fun K hK => ?_)
                go_simp
                refine hK _ ?_
                clear hK K
                refine wpStill_do (by kernel_rfl) (fun K hK => ?_)
                go_simp
                refine hK _ ?_
                clear hK K
                refine wpStill_do (by kernel_rfl) (fun K hK => ?_)
                go_simp
                refine hK _ ?_
                clear hK K
                refine wpStill_do (by kernel_rfl) (fun K hK => ?_)
                go_simp
                refine hK _ ?_
                clear hK K
                refine wpStill_do (by kernel_rfl) (fun K hK => ?_)
                go_simp
                refine hK _ ?_
                clear hK K
                refine wpStill_do (by kernel_rfl) (fun K hK => ?_)
                go_simp
                refine hK _ ?_
                clear hK K
                refine wpStill_do (by kernel_rfl) (fun K hK => ?_)
                go_simp
                refine hK _ ?_
                clear hK K
                refine wpStill_do (by kernel_rfl) (fun K hK => ?_)
                go_simp
                refine hK _ ?_
                clear hK K
                refine wpStill_do (by kernel_rfl) (fun K hK => ?_)
                go_simp
                refine hK _ ?_
                clear hK K
                refine wpStill_do (by kernel_rfl) (fun K hK => ?_)
                go_simp
                refine hK _ ?_
                clear hK K
                refine wpStill_do (by kernel_rfl) (fun K hK => ?_)
                go_simp
                refine hK _ ?_
                clear hK K
                refine wpStill_do (by kernel_rfl) (fun K hK => ?_)
                go_simp
                refine hK _ ?_
                clear hK K
                refine wpStill_do (by kernel_rfl) (fun K hK => ?_)
                go_simp
                refine hK _ ?_
                clear hK K
                refine wpStill_do (by kernel_rfl) (fun K hK => ?_)
                go_simp
                refine hK _ ?_
                clear hK K
                refine wpStill_do (by kernel_rfl) (fun K hK => ?_)
                go_simp
                refine hK _ ?_
                clear hK K
                refine wpStill_do (by kernel_rfl) (fun K hK => ?_)
                go_simp
                refine hK _ ?_
                clear hK K
                refine wpStill_do (by kernel_rfl) (fun K hK => ?_)
                go_simp
                refine hK _ ?_
                clear hK K
                refine wpStill_do (by kernel_rfl) (fun K hK => ?_)
                go_simp
                refine hK _ ?_
                clear hK K
                refine wpStill_nil ?_
                change wpList _ _ _ _ _ W2.drew
                go_wp2_with (go_at_call 45; (with_reducible refine (rn_need_yes _).mono ?_); rintro e w3 ⟨rfl, rfl⟩)
                have HB4 := Lib.hid (HB3'.out.later (Below.drew (new_refl W2)))
                have HI4 := Lib.hid (HI3.out.new (Below.drew (new_refl W2)))
                have HC4 := Lib.hid (HC3.out.drew)
                have HCB4 := Lib.hid ((show BoxA W2 x1' 27 (cA (r, gg, u, a)) from HCB.out).later (Below.drew (new_refl W2)))
                clear HB3' HI3 HC3 HCB y0 y1 y2 y3
                generalize W2.drew = W3 at *
                go_loopw [4, 54] (fun b i wr => ∃ (j : Nat) (cur' : List Col), (j : Int) ≤ m.1 ∧ b = .int .i64 ((n : Int) + j) ∧ i = .int .i64 j ∧ Hid (cur'.length = 64) ∧ Hid (BoxA wr (w.heap.size + 1) 29 (tcA cur')) ∧ Hid (cur'.take (n + j) = cur.take n ++ List.replicate j (r, gg, u, a)) ∧ Hid (Chg (fun k => k = w.heap.size + 1) W3 wr)) (fun _ i _ => m.1.toNat - (intOf i).toNat)
                case atStart => exact ⟨0, cur, by have := m.2.1; omega, by go_num, rfl, HCL, HB4, Lib.hid (by simp), Lib.hid (Chg.refl _ _)⟩
                case round =>
                  obtain ⟨j, cur', hj, rfl, rfl, HCL', HBT', HTK, HCJ⟩ := hrel
                  by_cases hjl : (j : Int) < m.1
                  · have hd1 : decide ((j : Int) < m.1) = true := by simpa using hjl
                    have hnj : n + j < cur'.length := by have := HCL'.out; omega
                    obtain ⟨x0, x1, x2, x3⟩ := HBT'.out.col (n + j) hnj
                    have f0 := HBT'.out.free ((n + j) * 4)
                    have f1 := HBT'.out.free ((n + j) * 4 + 1)
                    have f2 := HBT'.out.free ((n + j) * 4 + 2)
                    have f3 := HBT'.out.free ((n + j) * 4 + 3)
                    obtain ⟨⟨v0, v1, v2, v3⟩, _⟩ := (HCB4.out.chg HCJ.out (by have := HSX.out; have := HS0.out; omega)).cells
                    simp only at v0 v1 v2 v3
                    have hi1 : ((n : Int) + (j : Int)).toNat = n + j := by omega
                    have hi2 : (0 : Int) ≤ (n : Int) + j := by omega
                    have hi3 : (n : Int) + j < 64 := by omega
                    have hi4 : n + j < 64 := by omega
                    have hset := (HBT'.out.setCol (n + j) hnj (r, gg, u, a))
                    have hcs := chg_set4 (fun k => k = w.heap.size + 1) wr (w.heap.size + 1) ((n + j) * 4) (e8 r) (e8 gg) (e8 u) (e8 a) (.inl rfl)
                    have HSET := Lib.hid hset
                    have HCS := Lib.hid (HCJ.out.trans hcs)
                    have HTK2 : Hid ((cur'.set (n + j) (r, gg, u, a)).take (n + (j + 1)) = cur.take n ++ List.replicate (j + 1) (r, gg, u, a)) := Lib.hid (by
                      rw [← Nat.add_assoc, take_snoc _ (n + j) (by rw [List.length_set]; exact hnj), List.take_set_of_le (Nat.le_refl _), HTK.out, List.getElem_set_self, List.replicate_succ', List.append_assoc])
                    have HCLS : Hid ((cur'.set (n + j) (r, gg, u, a)).length = 64) := Lib.hid (by rw [List.length_set]; exact HCL'.out)
                    clear hset hcs
                    go_wp2
                    go_roundw
                    case rel => exact ⟨j + 1, cur'.set (n + j) (r, gg, u, a), by omega, by go_num, by go_num, HCLS, HSET, HTK2, HCS⟩
                    case measure => simp [intOf]; omega
                  · have hjm : j = m.1.toNat := by omega
                    have hd1 : decide ((j : Int) < m.1) = false := by simpa using hjl
                    have HY2 := Lib.hid (HY.out cur' (by rw [← hjm]; exact HTK.out))
                    rw [← hjm] at HY2
                    have HC5 := Lib.hid (HC4.out.trans (HCJ.out.mono (fun _ _ h => .inr h)))
                    have HI5 := Lib.hid (HI4.out.chg HCJ.out (fun k hk => by have := HG.out; have := HI4.out.1; omega))
                    have hnm : n + j ≤ 64 := by omega
                    have hj1 : 1 ≤ j := by omega
                    clear hjm
                    go_wp2
                    go_roundw
                    case rel => exact ⟨n + j, cur', p' + 5, hnm, by go_num, HCL', HBT', HI5, HY2, HC5⟩
                    case measure => simp [intOf]; omega
          · have d2 : decide ((n : Int) + m.1 ≤ 64) = false := by simpa using g2
            have HNO := Lib.hid (HAT1.out.no hlt HD5.out (fun h => g2 (hle.1 h.2.1)))
            clear hle
            go_wp2_with fail
            refine wp_region_still_tail 20 (by kernel_rfl) (by kernel_rfl) ?_
            simp only [List.take_succ_cons, List.take_zero, List.drop_succ_cons, List.drop_zero]
            refine wpStill_do (by kernel_rfl) (fun K hK => ?_)
            go_simp
            refine hK _ ?_
            clear hK K
            refine wpStill_do (by kernel_rfl) (fun K hK => ?_)
            go_simp
            refine hK _ ?_
            clear hK K
            refine wpStill_do (by kernel_rfl) (fun K hK => ?_)
            go_simp
            refine hK _ ?_
            clear hK K
            refine wpStill_do (by kernel_rfl) (fun K hK => ?_)
            go_simp
            refine hK _ ?_
            clear hK K
            refine wpStill_do (by kernel_rfl) (fun K hK => ?_)
            go_simp
            refine hK _ ?_
            clear hK K
            refine wpStill_do (by kernel_rfl) (fun K hK => ?_)
            go_simp
            refine hK _ ?_
            clear hK K
            refine wpStill_do (by kernel_rfl) (fun K hK => ?_)
            go_simp
            refine hK _ ?_
            clear hK K
            refine wpStill_do (by kernel_rfl) (fun K hK => ?_)
            go_simp
            refine hK _ ?_
            clear hK K
            refine wpStill_do (by kernel_rfl) (fun K hK => ?_)
            go_simp
            refine hK _ ?_
            clear hK K
            refine wpStill_skip (by kernel_rfl) ?_
            simp only [Act.put, List.setIfInBounds_toArray, List.set_cons_zero, List.set_cons_succ]
            refine wpStill_skip (by kernel_rfl) ?_
            simp only [Act.put, List.setIfInBounds_toArray, List.set_cons_zero, List.set_cons_succ]
            refine wpStill_skip (by kernel_rfl) ?_
            simp only [Act.put, List.setIfInBounds_toArray, List.set_cons_zero, List.set_cons_succ]
            refine wpStill_skip (by kernel_rfl) ?_
            simp only [Act.put, List.setIfInBounds_toArray, List.set_cons_zero, List.set_cons_succ]
            refine wpStill_skip (by kernel_rfl) ?_
            simp only [Act.put, List.setIfInBounds_toArray, List.set_cons_zero, List.set_cons_succ]
            refine wpStill_skip (by kernel_rfl) ?_
            simp only [Act.put, List.setIfInBounds_toArray, List.set_cons_zero, List.set_cons_succ]
            refine wpStill_skip (by kernel_rfl) ?_
            simp only [Act.put, List.setIfInBounds_toArray, List.set_cons_zero, List.set_cons_succ]
            refine wpStill_skip (by kernel_rfl) ?_
            simp only [Act.put, List.setIfInBounds_toArray, List.set_cons_zero, List.set_cons_succ]
            refine wpStill_skip (by kernel_rfl) ?_
            simp only [Act.put, List.setIfInBounds_toArray, List.set_cons_zero, List.set_cons_succ]
            refine wpStill_skip (by kernel_rfl) ?_
            simp only [Act.put, List.setIfInBounds_toArray, List.set_cons_zero, List.set_cons_succ]
            refine wpStill_do (by kernel_rfl) (fun K hK => ?_)
            go_simp
            refine hK _ ?_
            clear hK K
            refine wpStill_nil ?_
            change wpList _ _ _ _ _ W2.drew
            go_wp2_with (go_at_call 45; (with_reducible refine (rn_need_no _).mono ?_); rintro e w3 ⟨rfl, rfl⟩)
            exact ⟨rfl, chg_new HN0.out (HC3.out.drew) (fun i hi h => by rcases h with h | h; exact h; omega), p' + 5, HI3.out.new (Below.drew (new_refl _)), .inr ⟨HNO.out, rfl⟩⟩
        · have d1 : decide (0 < m.1) = false := by simpa using g1
          have HNO := Lib.hid (HAT1.out.no hlt HD5.out (fun h => g1 h.1))
          clear hle
          go_wp2_with fail
          refine wp_region_still_tail 20 (by kernel_rfl) (by kernel_rfl) ?_
          simp only [List.take_succ_cons, List.take_zero, List.drop_succ_cons, List.drop_zero]
          refine wpStill_do (by kernel_rfl) (fun K hK => ?_)
          go_simp
          refine hK _ ?_
          clear hK K
          refine wpStill_do (by kernel_rfl) (fun K hK => ?_)
          go_simp
          refine hK _ ?_
          clear hK K
          refine wpStill_do (by kernel_rfl) (fun K hK => ?_)
          go_simp
          refine hK _ ?_
          clear hK K
          refine wpStill_skip (by kernel_rfl) ?_
          simp only [Act.put, List.setIfInBounds_toArray, List.set_cons_zero, List.set_cons_succ]
          refine wpStill_skip (by kernel_rfl) ?_
          simp only [Act.put, List.setIfInBounds_toArray, List.set_cons_zero, List.set_cons_succ]
          refine wpStill_skip (by kernel_rfl) ?_
          simp only [Act.put, List.setIfInBounds_toArray, List.set_cons_zero, List.set_cons_succ]
          refine wpStill_skip (by kernel_rfl) ?_
          simp only [Act.put, List.setIfInBounds_toArray, List.set_cons_zero, List.set_cons_succ]
          refine wpStill_do (by kernel_rfl) (fun K hK => ?_)
          go_simp
          refine hK _ ?_
          clear hK K
          refine wpStill_do (by kernel_rfl) (fun K hK => ?_)
          go_simp
          refine hK _ ?_
          clear hK K
          refine wpStill_skip (by kernel_rfl) ?_
          simp only [Act.put, List.setIfInBounds_toArray, List.set_cons_zero, List.set_cons_succ]
          refine wpStill_skip (by kernel_rfl) ?_
          simp only [Act.put, List.setIfInBounds_toArray, List.set_cons_zero, List.set_cons_succ]
          refine wpStill_skip (by kernel_rfl) ?_
          simp only [Act.put, List.setIfInBounds_toArray, List.set_cons_zero, List.set_cons_succ]
          refine wpStill_skip (by kernel_rfl) ?_
          simp only [Act.put, List.setIfInBounds_toArray, List.set_cons_zero, List.set_cons_succ]
          refine wpStill_skip (by kernel_rfl) ?_
          simp only [Act.put, List.setIfInBounds_toArray, List.set_cons_zero, List.set_cons_succ]
          refine wpStill_skip (by kernel_rfl) ?_
          simp only [Act.put, List.setIfInBounds_toArray, List.set_cons_zero, List.set_cons_succ]
          refine wpStill_skip (by kernel_rfl) ?_
          simp only [Act.put, List.setIfInBounds_toArray, List.set_cons_zero, List.set_cons_succ]
          refine wpStill_skip (by kernel_rfl) ?_
          simp only [Act.put, List.setIfInBounds_toArray, List.set_cons_zero, List.set_cons_succ]
          refine wpStill_skip (by kernel_rfl) ?_
          simp only [Act.put, List.setIfInBounds_toArray, List.set_cons_zero, List.set_cons_succ]
          refine wpStill_skip (by kernel_rfl) ?_
          simp only [Act.put, List.setIfInBounds_toArray, List.set_cons_zero, List.set_cons_succ]
          refine wpStill_do (by kernel_rfl) (fun K hK => ?_)
          go_simp
          refine hK _ ?_
          clear hK K
          refine wpStill_nil ?_
          change wpList _ _ _ _ _ W2.drew
          go_wp2_with (go_at_call 45; (with_reducible refine (rn_need_no _).mono ?_); rintro e w3 ⟨rfl, rfl⟩)
          exact ⟨rfl, chg_new HN0.out (HC3.out.drew) (fun i hi h => by rcases h with h | h; exact h; omega), p' + 5, HI3.out.new (Below.drew (new_refl _)), .inr ⟨HNO.out, rfl⟩⟩
      · have hN : Chg (fun k => k = g) w w1 := chg_new HN0.out (HC1.out.trans (hC.mono (fun _ _ h => .inl h))) (fun i hi h => by rcases h with h | h; exact h; omega)
        exact ⟨rfl, hN, p', hI, .inr ⟨HAT1.out.short hlt h5, rfl⟩⟩
    · have HK := Lib.hid (show n = 64 by omega)
      have hz := HAT1.out
      rw [HK.out] at hz
      have HD := Lib.hid (hz.done HCL.out hp HI1.out.2.1)
      have HSZ := Lib.hid (size_tc HCL.out)
      have HB2' := Lib.hid (HB2.out.chg HC1.out (by have := HG.out; omega))
      clear hz
      go_wp2_with (first
        | (refine wpList_load_row rfl 29 (.tmp 3) rfl _ rfl _ (tcA cur) (0, 0) _ HBT.out Try.underlying29 rfl HSZ.out ?_)
        | (refine wpl_store_tile rfl (.tmp 2) (.tmp 62) rfl _ rfl cur HCL.out rfl HB2'.out (by simp [tcA_size, blankT_length]) ?_))
      have hb := HB2'.out.setRow (tcA cur)
      have hc := chg_setRow (fun k => k = w.heap.size) wr w.heap.size (tcA cur) rfl
      refine bodyPost_ret (v := .agg (tcA cur)) (results_cell_row rfl _ _ _ _ _ _ _ rfl hb Try.underlying29 rfl HSZ.out) rfl ⟨?_, p', ?_, .inl ⟨cur, HD.out.1, HD.out.2, HCL.out, rfl⟩⟩
      · exact chg_new (M' := fun k => k = g ∨ k = w.heap.size + 1 ∨ k = w.heap.size) HN0.out ((HC1.out.mono (fun _ _ h => by rcases h with h | h; exact .inl h; exact .inr (.inl h))).trans (hc.mono (fun _ _ h => .inr (.inr h)))) (fun i hi h => by rcases h with h | h | h; exact h; omega; omega)
      · exact HI1.out.chg hc (fun k hk => by have := HG.out; have := HI1.out.1; omega)
end Go.Proofs.Ythihffglkheleaa
