/- The law RunsTiles. -/
import Derived.Test.YthihffglkheleaaSo
set_option linter.unusedVariables false
set_option linter.unusedSimpArgs false
namespace Go.Proofs.Ythihffglkheleaa
open Go.RowKit

theorem Rd.cut {α : Type} {enc : α → Value} {lo hi : Nat} {w : World} {A : Option Addr} {c : Nat} {xs : List α} (h : Rd enc lo hi w (.slice A xs.length c) xs) (K : Nat) : ∃ ys : List α, ys = xs.take K ∧ ys.length = min xs.length K ∧ Rd enc lo hi w (.slice A ys.length c) ys := by
  have hyl : (xs.take K).length = min xs.length K := by rw [List.length_take, Nat.min_comm]
  obtain ⟨A', c', e, h1, h2, h3⟩ := h
  injection e with e1 e2 e3
  subst e1 e3
  refine ⟨xs.take K, rfl, hyl, A, c, rfl, by omega, h2, ?_⟩
  rcases h3 with h3 | ⟨b, off, rfl, hl, hh, hs, hc⟩
  · exact .inl (by rw [h3]; simp)
  · exact .inr ⟨b, off, rfl, hl, hh, hs, fun i hi => by rw [List.getElem_take]; exact hc i (by omega)⟩
theorem size_tcl {t : List Col} (h : t.length = 64) : (Try.prog.info? 29).map (·.size) = some (tcl t).length := by rw [tcl_length, h]; exact size_tile
theorem take_len_min {α : Type} (xs : List α) (k : Nat) : xs.take (xs.take k).length = xs.take k := by
  rw [List.length_take]
  by_cases h : k ≤ xs.length
  · rw [Nat.min_eq_left h]
  · rw [Nat.min_eq_right (by omega), List.take_length, List.take_of_length_le (by omega)]
theorem size_slT : (Try.prog.info? 29).map (·.size) = some 256 := size_tile

set_option maxRecDepth 100000 in
set_option maxHeartbeats 4000000 in
theorem law_Tiles (vl vx : Value) (ls : List (List Col)) (xs : List U8) (w : World) (hl : RdT 0 w.heap.size w vl ls) (hx : Rd e8 0 w.heap.size w vx xs) :
    Calls Try.prog 3 #[vl, vx] w fun e w' => e = .returned (.bool true) ∧ New w w' := by
  obtain ⟨A, c, rfl, h1, h2⟩ := hl.form
  obtain ⟨B, d, rfl, h3, h4⟩ := hx.form
  obtain ⟨ts, hts, htl, hT⟩ := hl.cut 8
  obtain ⟨bs, hbs, hbl, hB⟩ := hx.cut 700
  have hs1 := sliceG_h Try.underlying22 size_tile A ls.length c ts.length (by omega) h1
  have hs2 := sliceG_h Try.underlying23 size_u8 B xs.length d bs.length (by omega) h3
  have HX := Lib.hid hx
  have HT := Lib.hid hT
  have HB := Lib.hid hB
  have HTL := Lib.hid htl
  have HBL := Lib.hid hbl
  have HT8 := Lib.hid (show ts.length ≤ 8 by omega)
  have HB7 := Lib.hid (show bs.length ≤ 700 by omega)
  clear hl hx hT hB htl hbl hts hbs
  go_enter Try.func3, Try.ntmps3
  go_wp2_with fail
  refine (law_wakes w).mono ?_
  rintro e w1 ⟨rfl, hN⟩
  have HN1 := Lib.hid hN
  clear hN
  go_wp2_with ((with_reducible change wpList _ _ _ (⟨some 20, _, _, _, _, _⟩ :: _) _ _); refine wplG_min (by rfl) (.tmp 19) 8 rfl rfl HTL.out ?_)
  refine (oc_cloneT _ _ _ ts _ (HT.out.new HN1.out) (by have := HT8.out; omega)).mono ?_
  rintro e w2 ⟨A2, c2, rfl, hN, hO⟩
  have HN2 := Lib.hid (HN1.out.trans hN)
  have HR2 := Lib.hid (OwnT.rdT hO (Nat.le_refl _))
  clear hN hO hs1 HN1
  go_wp2_with fail
  go_loopw [5, 25] (fun s i wr => ∃ k : Nat, k ≤ ts.length ∧ s = .int .i64 (sizeT (ts.take k)) ∧ i = .int .i64 k ∧ Hid (New w2 wr)) (fun _ i _ => ts.length - (intOf i).toNat)
  case atStart => exact ⟨0, Nat.zero_le _, rfl, rfl, Lib.hid (new_refl _)⟩
  case round =>
    obtain ⟨k, hk, rfl, rfl, HN⟩ := hrel
    by_cases hlt : k < ts.length
    · obtain ⟨b, off, e1, _, _, r1⟩ := (HR2.out.new HN.out).range k hlt
      subst e1
      have ht := HR2.out.2 _ (List.getElem_mem hlt)
      have hst := sizeT_take ts k hlt
      have hle := sizeT_le ts HR2.out.2
      have hle2 : sizeT (ts.take (k + 1)) ≤ sizeT ts := by
        unfold sizeT
        rw [List.map_take]
        conv => rhs; rw [← List.take_append_drop (k + 1) (ts.map fun t => (tileB t).length), List.sum_append]
        omega
      have HST := Lib.hid (show sizeT (ts.take (k + 1)) = sizeT (ts.take k) + (tileB ts[k]).length ∧ sizeT (ts.take (k + 1)) ≤ 3000 by have := HT8.out; omega)
      have HT1 := Lib.hid ht
      have hsz := size_tcl ht
      clear ht hst hle hle2
      generalize ts[k] = t at *
      generalize hb0 : tileB t = tb at *
      have HTB := Lib.hid hb0
      clear hb0
      generalize hs1 : sizeT (ts.take (k + 1)) = s1 at *
      have HS1E := Lib.hid hs1
      clear hs1
      generalize sizeT (ts.take k) = s0 at *
      go_wp2_with (first
        | (refine wplG_load (by rfl) (.tmp 27) rfl _ _ rfl (tcl t) _ r1 Try.underlying29 rfl hsz ?_)
        | (refine wpl_alloc_tile rfl rfl ?_)
        | (refine wpl_store_tileG rfl (.tmp 7) (.tmp 28) rfl _ rfl t HT1.out rfl blankT_length (BoxA.new _ _ _) ?_; rintro w3 hb hc; have HN3 := Lib.hid (HN.out.trans ((new_refl wr).trans' ((new_alloc wr _).chg _ |>.trans hc) (fun k hk => by omega))); obtain ⟨q, hq⟩ : ∃ q, wr.heap.size = q := ⟨_, rfl⟩; rw [hq] at hb ⊢; have HB3 := Lib.hid hb; clear hb hc hq)
        | (refine wplG_load (by rfl) (.tmp 7) rfl _ _ rfl (tcl t) _ HB3.out.range Try.underlying29 rfl hsz ?_))
      refine (rn_Tile t _ HT1.out).mono ?_
      rw [HTB.out]
      rintro e w4 ⟨A4, c4, rfl, hN, hO⟩
      have HN4 := Lib.hid (HN3.out.trans hN)
      have HB4 := Lib.hid (HB3.out.later hN)
      have HO4 := Lib.hid (hO.rd (Nat.le_refl _))
      clear hN hO
      go_wp2_with (refine wplG_load (by rfl) (.tmp 7) rfl _ _ rfl (tcl t) _ HB4.out.range Try.underlying29 rfl hsz ?_)
      refine (ref_Tile t _ HT1.out).mono ?_
      rw [HTB.out]
      rintro e w5 ⟨A5, c5, rfl, hN, hO⟩
      have HN5 := Lib.hid (HN4.out.trans hN)
      have HO5 := Lib.hid (hO.rd (Nat.le_refl _))
      have HO4 := Lib.hid (HO4.out.new hN)
      clear hN hO
      go_wp2_with fail
      refine (oc_eq8 _ _ _ _ _ _ tb tb _ HO4.out HO5.out).mono ?_
      rw [decide_eq_true (rfl : tb = tb)]
      rintro e w6 ⟨rfl, nd, hd⟩
      have HN6 : Hid (New w2 w6) := Lib.hid (by rw [hd]; exact New.drewN HN5.out _)
      clear hd
      have hwk : IntKind.i64.wrap ((k : Int) + 1) = (k : Int) + 1 := by rw [IntKind.wrap_i64]; have := HT8.out; omega
      have hwr : IntKind.i64.wrap ((s0 : Int) + (tb.length : Int)) = (s1 : Int) := by rw [IntKind.wrap_i64]; have := HST.out; omega
      go_wp2
      go_roundw
      case rel => exact ⟨k + 1, by omega, by rw [HS1E.out], by go_num, HN6⟩
      case measure => simp [intOf]; omega
    · have hke : k = ts.length := by omega
      subst hke
      rw [List.take_length]
      have HN3 := Lib.hid (HN2.out.trans HN.out)
      have HR3 := Lib.hid (HR2.out.new HN.out)
      go_wp2_with ((with_reducible change wpList _ _ _ (⟨some 44, _, _, _, _, _⟩ :: _) _ _); refine wplG_min (by rfl) (.tmp 43) 700 rfl rfl HBL.out ?_)
      refine (oc_clone8 _ _ _ bs _ (HB.out.new HN3.out) (by have := HB7.out; omega)).mono ?_
      rintro e w4 ⟨A4, c4, rfl, hN, hO⟩
      have HN4 := Lib.hid (HN3.out.trans hN)
      have HR4 := Lib.hid (HR3.out.new hN)
      have HO4 := Lib.hid (hO.rd (Nat.le_refl _))
      clear hN hO HN3 HR3
      go_wp2_with fail
      refine (rn_ReadTile _ _ _ _ bs _ HO4.out (Nat.le_refl _) (by have := HB7.out; omega)).mono ?_
      rintro e w5 ⟨hN, rfl⟩
      have HN5 := Lib.hid (HN4.out.trans hN)
      have HR5 := Lib.hid (HR4.out.new hN)
      have HO5 := Lib.hid (HO4.out.new hN)
      clear hN HN4 HR4 HO4
      have hrf := fun W (hn : New w5 W) => ref_ReadTile _ _ _ bs W (HO5.out.new hn) (by have := HB7.out; omega)
      cases hR : readT bs with
      | none =>
        rw [hR] at hrf
        dsimp only
        have HRF := Lib.hid hrf
        have htl := blankT_length
        have heq := run_eqT blankT blankT blankT_length blankT_length
        rw [decide_eq_true (rfl : blankT = blankT)] at heq
        clear hrf hR
        have hz0 : decide ((0 : Int) < 0) = false := by simp
        have HTT := Lib.hid htl
        have hsz := size_tcl htl
        have ee : tcA blankT = (tcl blankT).toArray := rfl
        rw [ee] at heq
        clear htl ee
        go_wp2_with (first
          | (refine wpl_alloc_tile rfl rfl ?_)
          | (refine wpl_store_tileG rfl (.tmp 10) (.tmp 50) rfl _ rfl blankT HTT.out rfl blankT_length (BoxA.new _ _ _) ?_; rintro w6 hb hc; have HN56 := Lib.hid ((new_refl w5).trans' ((new_alloc w5 _).chg _ |>.trans hc) (fun k hk => by omega)); obtain ⟨q6, hq6⟩ : ∃ q, w5.heap.size = q := ⟨_, rfl⟩; rw [hq6] at hb ⊢; have HB6 := Lib.hid hb; clear hb hc hq6))
        refine (HRF.out w6 HN56.out).mono ?_
        rintro e w7 ⟨hN, rfl⟩
        have HN7 := Lib.hid (HN56.out.trans hN)
        have HB7' := Lib.hid (HB6.out.later hN)
        clear hN HRF
        dsimp only
        go_wp2_with (first
          | (refine wpl_alloc_tile rfl rfl ?_)
          | (refine wpl_store_tileG rfl (.tmp 13) (.tmp 56) rfl _ rfl blankT HTT.out rfl blankT_length (BoxA.new _ _ _) ?_; rintro w8 hb hc; have hN78 := (new_refl w7).trans' ((new_alloc w7 _).chg _ |>.trans hc) (fun k hk => by omega); have HN8 := Lib.hid (HN7.out.trans hN78); have HB8 := Lib.hid (HB7'.out.later hN78); obtain ⟨q8, hq8⟩ : ∃ q, w7.heap.size = q := ⟨_, rfl⟩; rw [hq8] at hb ⊢; have HB9 := Lib.hid hb; clear hb hc hq8 hN78))
        refine (rn_Size _ _ _ ts _ (HR5.out.new HN8.out) (by have := HT8.out; omega)).mono ?_
        rintro e w9 ⟨rfl, hN⟩
        have HN9 := Lib.hid (HN8.out.trans hN)
        have HBA := Lib.hid (HB8.out.later hN)
        have HBC := Lib.hid (HB9.out.later hN)
        clear hN
        go_wp2_with (first
          | (refine wplG_load (by rfl) (.tmp 10) rfl _ _ rfl (tcl blankT) _ HBA.out.range Try.underlying29 rfl hsz ?_)
          | (refine wplG_load (by rfl) (.tmp 13) rfl _ _ rfl (tcl blankT) _ HBC.out.range Try.underlying29 rfl hsz ?_))
        refine (oc_eq8 _ _ _ _ _ _ bs bs _ (HO5.out.new HN9.out) (HB.out.new (HN5.out.trans HN9.out))).mono ?_
        rw [decide_eq_true (rfl : bs = bs)]
        rintro e w10 ⟨rfl, nd, hd⟩
        have HN10 : Hid (New w w10) := Lib.hid (by rw [hd]; exact New.drewN (HN5.out.trans HN9.out) _)
        clear hd
        go_wp2
        go_ret
        exact ⟨rfl, HN10.out⟩
      | some x =>
        obtain ⟨t, n⟩ := x
        rw [hR] at hrf
        dsimp only
        have HRF := Lib.hid hrf
        obtain ⟨htl, hn, -, -, -⟩ := readT_some hR
        have hn0 := tileB_length_pos t htl
        have heq := run_eqT t t htl htl
        rw [decide_eq_true (rfl : t = t)] at heq
        have hz0 : decide ((0 : Int) < (n : Int)) = true := by simp; omega
        have hz1 : (0 : Int) < (n : Int) := by omega
        have hz2 : 0 < n := by omega
        clear hrf hR hn hn0
        have HTT := Lib.hid htl
        have hsz := size_tcl htl
        have ee : tcA t = (tcl t).toArray := rfl
        rw [ee] at heq
        clear htl ee
        go_wp2_with (first
          | (refine wpl_alloc_tile rfl rfl ?_)
          | (refine wpl_store_tileG rfl (.tmp 10) (.tmp 50) rfl _ rfl t HTT.out rfl blankT_length (BoxA.new _ _ _) ?_; rintro w6 hb hc; have HN56 := Lib.hid ((new_refl w5).trans' ((new_alloc w5 _).chg _ |>.trans hc) (fun k hk => by omega)); obtain ⟨q6, hq6⟩ : ∃ q, w5.heap.size = q := ⟨_, rfl⟩; rw [hq6] at hb ⊢; have HB6 := Lib.hid hb; clear hb hc hq6))
        refine (HRF.out w6 HN56.out).mono ?_
        rintro e w7 ⟨hN, rfl⟩
        have HN7 := Lib.hid (HN56.out.trans hN)
        have HB7' := Lib.hid (HB6.out.later hN)
        clear hN HRF
        dsimp only
        go_wp2_with (first
          | (refine wpl_alloc_tile rfl rfl ?_)
          | (refine wpl_store_tileG rfl (.tmp 13) (.tmp 56) rfl _ rfl t HTT.out rfl blankT_length (BoxA.new _ _ _) ?_; rintro w8 hb hc; have hN78 := (new_refl w7).trans' ((new_alloc w7 _).chg _ |>.trans hc) (fun k hk => by omega); have HN8 := Lib.hid (HN7.out.trans hN78); have HB8 := Lib.hid (HB7'.out.later hN78); obtain ⟨q8, hq8⟩ : ∃ q, w7.heap.size = q := ⟨_, rfl⟩; rw [hq8] at hb ⊢; have HB9 := Lib.hid hb; clear hb hc hq8 hN78))
        refine (rn_Size _ _ _ ts _ (HR5.out.new HN8.out) (by have := HT8.out; omega)).mono ?_
        rintro e w9 ⟨rfl, hN⟩
        have HN9 := Lib.hid (HN8.out.trans hN)
        have HBA := Lib.hid (HB8.out.later hN)
        have HBC := Lib.hid (HB9.out.later hN)
        clear hN
        go_wp2_with (first
          | (refine wplG_load (by rfl) (.tmp 10) rfl _ _ rfl (tcl t) _ HBA.out.range Try.underlying29 rfl hsz ?_)
          | (refine wplG_load (by rfl) (.tmp 13) rfl _ _ rfl (tcl t) _ HBC.out.range Try.underlying29 rfl hsz ?_))
        refine (oc_eq8 _ _ _ _ _ _ bs bs _ (HO5.out.new HN9.out) (HB.out.new (HN5.out.trans HN9.out))).mono ?_
        rw [decide_eq_true (rfl : bs = bs)]
        rintro e w10 ⟨rfl, nd, hd⟩
        have HN10 : Hid (New w w10) := Lib.hid (by rw [hd]; exact New.drewN (HN5.out.trans HN9.out) _)
        clear hd
        go_wp2
        go_ret
        exact ⟨rfl, HN10.out⟩
end Go.Proofs.Ythihffglkheleaa
