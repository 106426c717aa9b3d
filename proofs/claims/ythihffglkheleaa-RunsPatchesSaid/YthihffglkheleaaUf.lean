/- The law RunsBack. -/
import Derived.Test.YthihffglkheleaaUe
set_option linter.unusedVariables false
set_option linter.unusedSimpArgs false
namespace Go.Proofs.Ythihffglkheleaa
open Go.RowKit

-- append(slices.Clone(b), more...): the clone is met, then the append

set_option maxRecDepth 100000 in
set_option maxHeartbeats 8000000 in
theorem law_Back (t : List Col) (wd hg : I64) (A : Option Addr) (c : Nat) (ls : List (List Col)) (vx : Value) (xs : List U8) (w : World) (ht : t.length = 64) (hl : RdT 0 w.heap.size w (.slice A ls.length c) ls) (hx : Rd e8 0 w.heap.size w vx xs) :
    Calls Try.prog 5 #[.agg (tcA t), vCv wd.1 hg.1 A ls.length c, vx] w fun e w' => e = .returned (.bool true) ∧ New w w' := by
  obtain ⟨B, d, rfl, h3, h4⟩ := hx.form
  obtain ⟨ms, hms, hml, hM⟩ := hx.cut 6000
  have hs1 := sliceG_h Try.underlying23 size_u8 B xs.length d ms.length (by omega) h3
  obtain ⟨ts, hts⟩ : ∃ ts, ts = ls.take 17 := ⟨_, rfl⟩
  have hts64 : ∀ t ∈ ts, t.length = 64 := fun t h => hl.2 t (by rw [hts] at h; exact List.mem_of_mem_take h)
  have hts17 : ts.length ≤ 17 := by rw [hts, List.length_take]; omega
  obtain ⟨W2, hW2⟩ : ∃ W2, W2 = (w.alloc (.cells (tcA t) 29)).alloc (.cells #[.int .i64 wd.1, .int .i64 hg.1, .slice A ls.length c] 43) := ⟨_, rfl⟩
  have hn2 : New w W2 := by rw [hW2]; exact (new_alloc w _).alloc _
  have hbt : BoxA W2 w.heap.size 29 (tcA t) := by rw [hW2]; exact (BoxA.new w _ _).later (new_alloc _ _)
  have hba : BoxA W2 (w.heap.size + 1) 43 #[.int .i64 wd.1, .int .i64 hg.1, .slice A ls.length c] := by
    have := BoxA.new (w.alloc (.cells (tcA t) 29)) 43 #[.int .i64 wd.1, .int .i64 hg.1, .slice A ls.length c]
    rw [World.size_alloc] at this
    rw [hW2]; exact this
  obtain ⟨b0, hb0⟩ : ∃ b0, w.heap.size = b0 := ⟨_, rfl⟩
  have HN := Lib.hid hn2
  have HB := Lib.hid hbt
  have HA := Lib.hid hba
  have HM := Lib.hid (hM.new hn2)
  have HL := Lib.hid (hl.new hn2)
  have HT := Lib.hid ht
  have HTS := Lib.hid hts
  have HTS64 := Lib.hid hts64
  have HTS17 := Lib.hid hts17
  have HMLE := Lib.hid hml
  have HML := Lib.hid (show ms.length ≤ 6000 by omega)
  have hlp := tileB_length_pos t ht
  have hle := tileB_le t
  have h00 : 0 < t.length := by omega
  have hch := tileB_chgs t h00
  have HRT := Lib.hid (rn_Tile t · ht)
  have HRU := Lib.hid (rn_Runs t · ht)
  have HR1 := Lib.hid (readT_tileB t ms ht)
  have HR2 := Lib.hid (readT_short t ht)
  obtain ⟨tb, htb⟩ : ∃ tb, tileB t = tb := ⟨_, rfl⟩
  rw [htb] at hlp hle hch HRT HR1 HR2
  have HXL0 := Lib.hid (show tb.length ≤ 320 by omega)
  have HXP := Lib.hid hlp
  have HSZ : Hid (sizeT [t] = tb.length) := Lib.hid (by simp [sizeT, htb])
  generalize chgs (t[0]'h00) t = ch at *
  have HCH := Lib.hid hch
  clear hM hl hn2 hbt hba ht hts hts64 hts17 hml hlp hle h00 hch htb hms h3 h4 hx
  go_enter Try.func5, Try.ntmps5
  go_wp2_with fail
  rw [← hW2]
  rw [hb0] at HB HA
  have HB0 := Lib.hid hb0
  clear hW2 hb0
  refine (law_wakes _).mono ?_
  rintro e w1 ⟨rfl, hN⟩
  have HN := Lib.hid (HN.out.trans hN)
  have HB := Lib.hid (HB.out.later hN)
  have HA := Lib.hid (HA.out.later hN)
  have HM := Lib.hid (HM.out.new hN)
  have HL := Lib.hid (HL.out.new hN)
  clear hN
  go_wp2_with (first
    | ((with_reducible change wpList _ _ _ (⟨some 30, _, _, _, _, _⟩ :: _) _ _); refine wplG_min (by rfl) (.tmp 29) 6000 rfl rfl HMLE.out ?_)
    | (refine wplG_load (by rfl) (.tmp 3) rfl _ _ rfl (tcl t) _ HB.out.range Try.underlying29 rfl (size_tcl HT.out) ?_)
    )
  refine (HRT.out _).mono ?_
  rintro e w2 ⟨A2, c2, rfl, hN, hO⟩
  have HTB := Lib.hid (hO.rd (Nat.le_refl _))
  have HN := Lib.hid (HN.out.trans hN)
  have HB := Lib.hid (HB.out.later hN)
  have HA := Lib.hid (HA.out.later hN)
  have HM := Lib.hid (HM.out.new hN)
  have HL := Lib.hid (HL.out.new hN)
  clear hN hO hs1
  go_wp2_with fail
  have HXL := HXL0
  refine (oc_clone8 _ _ _ tb _ (HTB.out) (by have := HXL.out; omega)).mono ?_
  rintro e wc ⟨Ac, cc, rfl, hNc, hOc⟩
  have HNC := Lib.hid hNc
  have HOC := Lib.hid hOc
  have HMC := Lib.hid (HM.out.new hNc)
  clear hNc hOc
  go_wp2_with (at_builtin; refine wpl_append (enc := e8) (ys := ms) rfl (.tmp 36) (.tmp 37) rfl Try.underlying23 info_u8 rfl (fun _ => rfl) rfl rfl HOC.out HMC.out (by have := HXL.out; have := HML.out; omega) (by have := HXL.out; have := HML.out; omega) HNC.out.size ?_)
  intro Aa ca wa hOa hga _
  have hNa := Below.grown HNC.out hga HNC.out.size (fun k hk => (HOC.out.lt k hk).1)
  have HRA := Lib.hid (hOa.rd (Nat.le_refl _))
  have HTB := Lib.hid ((HTB.out.new hNa).mono (Nat.le_refl _) hNa.size)
  have HN := Lib.hid (HN.out.trans hNa)
  have HB := Lib.hid (HB.out.later hNa)
  have HA := Lib.hid (HA.out.later hNa)
  have HM := Lib.hid (HM.out.new hNa)
  have HL := Lib.hid (HL.out.new hNa)
  clear hOa hga hNa HNC HOC HMC
  go_wp2_with fail
  have hrt := rn_ReadTile _ _ Aa ca (tb ++ ms) wa (by rw [← List.length_append] at HRA; exact HRA.out) (Nat.le_refl _) (by rw [List.length_append]; have := HXL.out; have := HML.out; omega)
  rw [HR1.out, List.length_append] at hrt
  refine hrt.mono ?_
  rintro e w3 ⟨hN, rfl⟩
  have HTB := Lib.hid ((HTB.out.new hN).mono (Nat.le_refl _) hN.size)
  have HN := Lib.hid (HN.out.trans hN)
  have HB := Lib.hid (HB.out.later hN)
  have HA := Lib.hid (HA.out.later hN)
  have HM := Lib.hid (HM.out.new hN)
  have HL := Lib.hid (HL.out.new hN)
  clear hN hrt HRA
  dsimp only
  have hne := run_neT t t HT.out HT.out
  rw [show decide (t ≠ t) = false by simp, show tcA t = (tcl t).toArray from rfl] at hne
  go_wp2_with (first
    | (refine wpl_alloc_tile rfl rfl ?_)
    | (refine wpl_store_tileG rfl (.tmp 8) (.tmp 40) rfl _ rfl t HT.out rfl blankT_length (BoxA.new _ _ _) ?_; rintro w4 hb hc; have hN := (new_refl w3).trans' ((new_alloc w3 _).chg _ |>.trans hc) (fun k hk => by omega); have HN := Lib.hid (HN.out.trans hN); have HB := Lib.hid (HB.out.later hN); have HA := Lib.hid (HA.out.later hN); have HM := Lib.hid (HM.out.new hN); have HL := Lib.hid (HL.out.new hN); have HTB := Lib.hid ((HTB.out.new hN).mono (Nat.le_refl _) hN.size); obtain ⟨q8, hq8⟩ : ∃ q, w3.heap.size = q := ⟨_, rfl⟩; rw [hq8] at hb ⊢; have HU := Lib.hid hb; clear hb hc hq8 hN)
    | (refine wplG_load (by rfl) (.tmp 8) rfl _ _ rfl (tcl t) _ HU.out.range Try.underlying29 rfl (size_tcl HT.out) ?_)
    | (refine wplG_load (by rfl) (.tmp 3) rfl _ _ rfl (tcl t) _ HB.out.range Try.underlying29 rfl (size_tcl HT.out) ?_)
    )
  refine (HRU.out _).mono ?_
  rintro e w5 ⟨rfl, hN⟩
  have HTB := Lib.hid ((HTB.out.new hN).mono (Nat.le_refl _) hN.size)
  have HN := Lib.hid (HN.out.trans hN)
  have HB := Lib.hid (HB.out.later hN)
  have HA := Lib.hid (HA.out.later hN)
  have HM := Lib.hid (HM.out.new hN)
  have HL := Lib.hid (HL.out.new hN)
  have hw5 : IntKind.i64.wrap (5 * (1 + (ch : Int))) = (tb.length : Int) := by have := HCH.out; have := HXL0.out; rw [IntKind.wrap_i64]; omega
  clear hN HRU
  go_wp2_with (first
    | (refine wplG_buildSlice [(0, .tmp 65)] [(0, .agg (tcl t).toArray)] (by rfl) rfl rfl (build_tile1 t HT.out _) ?_)
    | (refine wplG_load (by rfl) (.tmp 3) rfl _ _ rfl (tcl t) _ HB.out.range Try.underlying29 rfl (size_tcl HT.out) ?_)
    )
  have hrd : RdT w5.heap.size (w5.heap.size + 1) (w5.alloc (.cells (tcl t).toArray 29)) (.slice (some ⟨w5.heap.size, 0, none⟩) 1 1) [t] :=
    rdT_cells [t] (by rw [show [t].flatMap tcl = tcl t by simp [List.flatMap_cons]]; exact BoxA.new w5 29 (tcl t).toArray) (by simp [HT.out]) (by simp)
  refine (rn_Size _ _ _ [t] _ hrd (by simp)).mono ?_
  rw [HSZ.out]
  rintro e w6 ⟨rfl, hN0⟩
  have hN := (new_alloc w5 (.cells (tcl t).toArray 29)).trans hN0
  have HTB := Lib.hid ((HTB.out.new hN).mono (Nat.le_refl _) hN.size)
  have HN := Lib.hid (HN.out.trans hN)
  have HB := Lib.hid (HB.out.later hN)
  have HA := Lib.hid (HA.out.later hN)
  have HM := Lib.hid (HM.out.new hN)
  have HL := Lib.hid (HL.out.new hN)
  clear hN hN0 hrd hw5 hne
  obtain ⟨j, hj⟩ : ∃ j : Nat, j = tb.length - 1 := ⟨_, rfl⟩
  have hj1 : (tb.length : Int) - 1 = (j : Int) := by have := HXP.out; omega
  have hj2 : IntKind.i64.wrap ((j : Int)) = (j : Int) := by have := HXL0.out; rw [IntKind.wrap_i64]; omega
  have hs2 := sliceG_h Try.underlying23 size_u8 A2 tb.length c2 j (by omega) HTB.out.le_cap
  obtain ⟨pb, hpb, hpl, hP⟩ := HTB.out.cut j
  have hpj : pb.length = j := by rw [hpl]; omega
  have HPJ := Lib.hid hpj
  have hrn := HR2.out j (by have := HXP.out; omega)
  rw [← hpb] at hrn
  have hrt2 := rn_ReadTile _ _ A2 c2 pb _ hP (Nat.le_refl _) (by have := HXL0.out; omega)
  rw [hrn, hpj] at hrt2
  have HRT2 := Lib.hid hrt2
  clear hj hpb hpl hP hpj hrn hrt2
  go_wp2_with fail
  refine HRT2.out.mono ?_
  rintro e w7 ⟨hN, rfl⟩
  have HN := Lib.hid (HN.out.trans hN)
  have HB := Lib.hid (HB.out.later hN)
  have HA := Lib.hid (HA.out.later hN)
  have HM := Lib.hid (HM.out.new hN)
  have HL := Lib.hid (HL.out.new hN)
  clear hN hs2 hj1 hj2 HTB HRT2 HU
  dsimp only
  go_wp2_with (first
    | (refine wpl_alloc_tile rfl rfl ?_)
    | (refine wpl_store_tileG rfl (.tmp 11) (.tmp 76) rfl _ rfl blankT blankT_length rfl blankT_length (BoxA.new _ _ _) ?_; rintro w8 hb hc; have hN := (new_refl w7).trans' ((new_alloc w7 _).chg _ |>.trans hc) (fun k hk => by omega); have HN := Lib.hid (HN.out.trans hN); have HB := Lib.hid (HB.out.later hN); have HA := Lib.hid (HA.out.later hN); have HM := Lib.hid (HM.out.new hN); have HL := Lib.hid (HL.out.new hN); obtain ⟨q9, hq9⟩ : ∃ q, w7.heap.size = q := ⟨_, rfl⟩; rw [hq9]; obtain ⟨a0, a1, a2, -⟩ := HA.out.of3; clear hb hc hq9 hN))
  refine (law_own _ _ _ _ _ _ ls ts _ HL.out HTS.out).mono ?_
  rintro e w9 ⟨A9, c9, rfl, hN0, hO⟩
  have hN := hN0.alloc (.cells #[.int .i64 wd.1, .int .i64 hg.1, .slice A9 ts.length c9] 43)
  have HO := Lib.hid ((OwnT.rdT hO (Nat.le_refl _)).new (new_alloc w9 (.cells #[.int .i64 wd.1, .int .i64 hg.1, .slice A9 ts.length c9] 43)))
  have HC := Lib.hid (BoxA.new w9 43 #[.int .i64 wd.1, .int .i64 hg.1, .slice A9 ts.length c9])
  have HN := Lib.hid (HN.out.trans hN)
  have HB := Lib.hid (HB.out.later hN)
  have HA := Lib.hid (HA.out.later hN)
  have HM := Lib.hid (HM.out.new hN)
  have HL := Lib.hid (HL.out.new hN)
  clear hN hN0 hO a0 a1 a2
  go_wp2_with fail
  obtain ⟨w10, hw10⟩ : ∃ w10, w9.alloc (.cells #[.int .i64 wd.1, .int .i64 hg.1, .slice A9 ts.length c9] 43) = w10 := ⟨_, rfl⟩
  rw [hw10] at HO HC HN HB HA HM HL ⊢
  have HSO := Lib.hid (show w9.heap.size ≤ w10.heap.size by rw [← hw10]; simp)
  obtain ⟨q14, hq14⟩ : ∃ q, w9.heap.size = q := ⟨_, rfl⟩
  rw [hq14] at HC HO HSO ⊢
  clear hw10 hq14
  have hcv := rn_Canvas _ _ wd.1 hg.1 A9 c9 ts _ HO.out HSO.out
  have HXL := HXL0
  clear HXL0 HXP HTS HR1 HR2 HRT HCH HSZ HT HA HB HL
  cases hr : rightB wd.1 hg.1 ts.length with
  | false =>
    rw [show canvI wd.1 hg.1 ts = ([], 150) by rw [canvI, hr]; rfl] at hcv
    refine hcv.mono ?_
    clear hcv hr
    rintro e wz ⟨A11, c11, rfl, hN, hO⟩
    have HN := Lib.hid (HN.out.trans hN)
    have HM := Lib.hid (HM.out.new hN)
    clear hN hO HO HC
    dsimp only
    go_wp2_with fail
    refine (rn_ReadCanvas _ _ _ _ ms _ HM.out HN.out.size (by have := HML.out; omega)).mono ?_
    cases hrc : readCv ms with
    | none =>
      rintro e wy ⟨hN0, ⟨_, _, _, _, _, _, h1, _⟩ | ⟨_, rfl⟩⟩
      · cases h1
      have HN := Lib.hid (HN.out.trans (hN0.alloc (.cells #[.int .i64 0, .int .i64 0, .slice none 0 0] 43)))
      clear hN0 hrc
      go_wp2
      go_ret
      exact ⟨rfl, HN.out⟩
    | some r =>
      rintro e wy ⟨hN0, ⟨wd', hg', l, n, A12, c12, h1, rfl, hO12⟩ | ⟨h1, _⟩⟩
      rotate_left
      · cases h1
      injection h1 with h1
      subst h1
      obtain ⟨hr2, hl64, hnl, htk, hnn⟩ := readCv_some hrc
      have hN := hN0.alloc (.cells #[.int .i64 wd', .int .i64 hg', .slice A12 l.length c12] 43)
      have hcv := rn_Canvas _ _ wd' hg' A12 c12 l _ ((OwnT.rdT hO12 (Nat.le_refl _)).new (new_alloc wy (.cells #[.int .i64 wd', .int .i64 hg', .slice A12 l.length c12] 43))) (by simp)
      rw [show canvI wd' hg' l = (canvB wd' hg' ZA l, 0) by rw [canvI, hr2]; rfl] at hcv
      have HN := Lib.hid (HN.out.trans hN)
      have HM := Lib.hid (HM.out.new hN)
      generalize canvB wd' hg' ZA l = db at *
      have HCV := Lib.hid hcv
      have HNN := Lib.hid (And.intro htk hnl)
      have HNE := Lib.hid hnn
      clear hN hN0 hO12 hr2 hl64 htk hrc hcv hnn hnl
      go_wp2_with fail
      refine HCV.out.mono ?_
      rintro e wx ⟨Ax, cx, rfl, hN, hO⟩
      dsimp only at hO ⊢
      have HN := Lib.hid (HN.out.trans hN)
      have HDB := Lib.hid (hO.rd (Nat.le_refl _))
      have hM := HM.out.new hN
      have hs3 := sliceG_h Try.underlying23 size_u8 B ms.length d n HNN.out.2 hM.le_cap
      obtain ⟨pb, hpb, hpl, hP⟩ := hM.cut n
      have hpn : pb.length = n := by rw [hpl]; have := HNN.out.2; omega
      rw [hpn] at hP
      have HP := Lib.hid hP
      have HPE := Lib.hid (show db = pb by rw [hpb]; exact HNN.out.1.symm)
      have hnm : (n : Int) ≤ (ms.length : Int) := by have := HNN.out.2; omega
      have hPN := Lib.hid hpn
      clear hN hO hM hpb hpl hP HCV hpn
      go_wp2_with fail
      refine (oc_eq8 _ _ _ _ _ _ db pb _ HDB.out (by have h := HP.out; rw [← hPN.out] at h ⊢; exact h)).mono ?_
      rw [decide_eq_true HPE.out]
      rintro e wv ⟨rfl, nd, hd⟩
      have HNA : Hid (New w wv) := Lib.hid (by rw [hd]; exact New.drewN HN.out _)
      clear hd
      go_wp2
      go_ret
      exact ⟨rfl, HNA.out⟩
  | true =>
    have hcb := readCv_canvB hr HTS64.out ms
    have hct := readCv_cut hr HTS64.out
    have hbl := bytesC_le ZA ts [] HTS64.out
    have hcl := canvB_length wd.1 hg.1 ZA ts
    rw [show canvI wd.1 hg.1 ts = (canvB wd.1 hg.1 ZA ts, 0) by rw [canvI, hr]; rfl] at hcv
    obtain ⟨cb, hce⟩ : ∃ cb, canvB wd.1 hg.1 ZA ts = cb := ⟨_, rfl⟩
    rw [hce] at hcb hct hcl hcv
    have HXL := Lib.hid (show cb.length ≤ 5600 by have := HTS17.out; omega)
    have HXP := Lib.hid (show 2 ≤ cb.length by omega)
    have HCB1 := Lib.hid hcb
    have HCB2 := Lib.hid hct
    clear hcb hct hbl hcl hce hr
    refine hcv.mono ?_
    clear hcv
    rintro e w11 ⟨A11, c11, rfl, hN, hO⟩
    dsimp only at hO ⊢
    have HCB := Lib.hid (hO.rd (Nat.le_refl _))
    have HN := Lib.hid (HN.out.trans hN)
    have HM := Lib.hid (HM.out.new hN)
    have HO := Lib.hid (HO.out.new hN)
    have HC := Lib.hid (HC.out.later hN)
    clear hN hO
    go_wp2_with fail
    refine (oc_clone8 _ _ _ cb _ (HCB.out) (by have := HXL.out; omega)).mono ?_
    rintro e wc ⟨Ac, cc, rfl, hNc, hOc⟩
    have HNC := Lib.hid hNc
    have HOC := Lib.hid hOc
    have HMC := Lib.hid (HM.out.new hNc)
    clear hNc hOc
    go_wp2_with (at_builtin; refine wpl_append (enc := e8) (ys := ms) rfl (.tmp 92) (.tmp 93) rfl Try.underlying23 info_u8 rfl (fun _ => rfl) rfl rfl HOC.out HMC.out (by have := HXL.out; have := HML.out; omega) (by have := HXL.out; have := HML.out; omega) HNC.out.size ?_)
    intro Aa ca wa hOa hga _
    have hNa := Below.grown HNC.out hga HNC.out.size (fun k hk => (HOC.out.lt k hk).1)
    have HRA := Lib.hid (hOa.rd (Nat.le_refl _))
    have HN := Lib.hid (HN.out.trans hNa)
    have HM := Lib.hid (HM.out.new hNa)
    have HO := Lib.hid (HO.out.new hNa)
    have HC := Lib.hid (HC.out.later hNa)
    have HCB := Lib.hid ((HCB.out.new hNa).mono (Nat.le_refl _) hNa.size)
    clear hOa hga hNa HNC HOC HMC
    go_wp2_with fail
    have hrt := rn_ReadCanvas _ _ Aa ca (cb ++ ms) wa (by rw [← List.length_append] at HRA; exact HRA.out) (Nat.le_refl _) (by rw [List.length_append]; have := HXL.out; have := HML.out; omega)
    rw [HCB1.out, List.length_append] at hrt
    refine hrt.mono ?_
    clear hrt HRA
    rintro e w12 ⟨hN0, ⟨wd', hg', l, n, A12, c12, h1, rfl, hO12⟩ | ⟨h1, _⟩⟩
    rotate_left
    · cases h1
    injection h1 with h1
    injection h1 with e1 h1
    injection h1 with e2 h1
    injection h1 with e3 e4
    subst e1 e2 e3 e4
    have hN := hN0.alloc (.cells #[.int .i64 wd.1, .int .i64 hg.1, .slice A12 ts.length c12] 43)
    have HO12 := Lib.hid ((OwnT.rdT hO12 (Nat.le_refl _)).new (new_alloc w12 (.cells #[.int .i64 wd.1, .int .i64 hg.1, .slice A12 ts.length c12] 43)))
    have HC12 := Lib.hid (BoxA.new w12 43 #[.int .i64 wd.1, .int .i64 hg.1, .slice A12 ts.length c12])
    have HN := Lib.hid (HN.out.trans hN)
    have HM := Lib.hid (HM.out.new hN)
    have HO := Lib.hid (HO.out.new hN)
    have HC := Lib.hid (HC.out.later hN)
    have HCB := Lib.hid ((HCB.out.new hN).mono (Nat.le_refl _) hN.size)
    clear hN hN0 hO12
    obtain ⟨j, hj⟩ : ∃ j : Nat, j = cb.length - 1 := ⟨_, rfl⟩
    have hj1 : (cb.length : Int) - 1 = (j : Int) := by have := HXP.out; omega
    have hj2 : IntKind.i64.wrap ((j : Int)) = (j : Int) := by have := HXL.out; rw [IntKind.wrap_i64]; omega
    have hs2 := sliceG_h Try.underlying23 size_u8 A11 cb.length c11 j (by omega) HCB.out.le_cap
    obtain ⟨pb, hpb, hpl, hP⟩ := HCB.out.cut j
    have hpj : pb.length = j := by rw [hpl]; omega
    have hrn := HCB2.out j (by have := HXP.out; omega)
    rw [← hpb] at hrn
    have hrt2 := rn_ReadCanvas _ _ A11 c11 pb _ hP (Nat.le_refl _) (by have := HXL.out; omega)
    rw [hrn, hpj] at hrt2
    have HRT2 := Lib.hid hrt2
    clear hj hpb hpl hP hpj hrn hrt2
    go_wp2_with fail
    refine HRT2.out.mono ?_
    rintro e w13 ⟨hN0, ⟨_, _, _, _, _, _, h1, _⟩ | ⟨_, rfl⟩⟩
    · cases h1
    have hN := hN0.alloc (.cells #[.int .i64 0, .int .i64 0, .slice none 0 0] 43)
    have HO12 := Lib.hid (HO12.out.new hN)
    have HC12 := Lib.hid (HC12.out.later hN)
    have HN := Lib.hid (HN.out.trans hN)
    have HM := Lib.hid (HM.out.new hN)
    have HO := Lib.hid (HO.out.new hN)
    have HC := Lib.hid (HC.out.later hN)
    have HCB := Lib.hid ((HCB.out.new hN).mono (Nat.le_refl _) hN.size)
    clear hN hN0 hs2 hj1 hj2 HRT2
    obtain ⟨k0, k1, k2, -⟩ := HC.out.of3
    obtain ⟨m0, m1, m2, -⟩ := HC12.out.of3
    go_wp2_with fail
    refine (cv_Alike _ _ _ _ _ _ _ _ ts _ _ _ _ ts _ HO.out HO12.out).mono ?_
    rw [show alike wd.1 hg.1 ts wd.1 hg.1 ts = true by simp [alike]]
    rintro e wz ⟨rfl, hN⟩
    have HN := Lib.hid (HN.out.trans hN)
    have HM := Lib.hid (HM.out.new hN)
    clear hN HO HC HO12 HC12 HCB k0 k1 k2 m0 m1 m2
    go_wp2_with fail
    refine (rn_ReadCanvas _ _ _ _ ms _ HM.out HN.out.size (by have := HML.out; omega)).mono ?_
    cases hrc : readCv ms with
    | none =>
      rintro e wy ⟨hN0, ⟨_, _, _, _, _, _, h1, _⟩ | ⟨_, rfl⟩⟩
      · cases h1
      have HN := Lib.hid (HN.out.trans (hN0.alloc (.cells #[.int .i64 0, .int .i64 0, .slice none 0 0] 43)))
      clear hN0 hrc
      go_wp2
      go_ret
      exact ⟨rfl, HN.out⟩
    | some r =>
      rintro e wy ⟨hN0, ⟨wd', hg', l, n, A12, c12, h1, rfl, hO12⟩ | ⟨h1, _⟩⟩
      rotate_left
      · cases h1
      injection h1 with h1
      subst h1
      obtain ⟨hr2, hl64, hnl, htk, hnn⟩ := readCv_some hrc
      have hN := hN0.alloc (.cells #[.int .i64 wd', .int .i64 hg', .slice A12 l.length c12] 43)
      have hcv := rn_Canvas _ _ wd' hg' A12 c12 l _ ((OwnT.rdT hO12 (Nat.le_refl _)).new (new_alloc wy (.cells #[.int .i64 wd', .int .i64 hg', .slice A12 l.length c12] 43))) (by simp)
      rw [show canvI wd' hg' l = (canvB wd' hg' ZA l, 0) by rw [canvI, hr2]; rfl] at hcv
      have HN := Lib.hid (HN.out.trans hN)
      have HM := Lib.hid (HM.out.new hN)
      generalize canvB wd' hg' ZA l = db at *
      have HCV := Lib.hid hcv
      have HNN := Lib.hid (And.intro htk hnl)
      have HNE := Lib.hid hnn
      clear hN hN0 hO12 hr2 hl64 htk hrc hcv hnn hnl
      go_wp2_with fail
      refine HCV.out.mono ?_
      rintro e wx ⟨Ax, cx, rfl, hN, hO⟩
      dsimp only at hO ⊢
      have HN := Lib.hid (HN.out.trans hN)
      have HDB := Lib.hid (hO.rd (Nat.le_refl _))
      have hM := HM.out.new hN
      have hs3 := sliceG_h Try.underlying23 size_u8 B ms.length d n HNN.out.2 hM.le_cap
      obtain ⟨pb, hpb, hpl, hP⟩ := hM.cut n
      have hpn : pb.length = n := by rw [hpl]; have := HNN.out.2; omega
      rw [hpn] at hP
      have HP := Lib.hid hP
      have HPE := Lib.hid (show db = pb by rw [hpb]; exact HNN.out.1.symm)
      have hnm : (n : Int) ≤ (ms.length : Int) := by have := HNN.out.2; omega
      have hPN := Lib.hid hpn
      clear hN hO hM hpb hpl hP HCV hpn
      go_wp2_with fail
      refine (oc_eq8 _ _ _ _ _ _ db pb _ HDB.out (by have h := HP.out; rw [← hPN.out] at h ⊢; exact h)).mono ?_
      rw [decide_eq_true HPE.out]
      rintro e wv ⟨rfl, nd, hd⟩
      have HNA : Hid (New w wv) := Lib.hid (by rw [hd]; exact New.drewN HN.out _)
      clear hd
      go_wp2
      go_ret
      exact ⟨rfl, HNA.out⟩
end Go.Proofs.Ythihffglkheleaa
