/- The law RunsPatches. -/
import Derived.Test.YthihffglkheleaaUg
set_option linter.unusedVariables false
set_option linter.unusedSimpArgs false
namespace Go.Proofs.Ythihffglkheleaa
open Go.RowKit

set_option maxRecDepth 100000 in
set_option maxHeartbeats 16000000 in
theorem law_Patches (wa ha : I64) (A : Option Addr) (ca : Nat) (la : List (List Col)) (wb hb : I64) (B : Option Addr) (cb : Nat) (lb : List (List Col)) (wc hc : I64) (C : Option Addr) (cc : Nat) (lc : List (List Col)) (w : World)
    (hla : RdT 0 w.heap.size w (.slice A la.length ca) la) (hlb : RdT 0 w.heap.size w (.slice B lb.length cb) lb) (hlc : RdT 0 w.heap.size w (.slice C lc.length cc) lc) :
    Calls Try.prog 7 #[vCv wa.1 ha.1 A la.length ca, vCv wb.1 hb.1 B lb.length cb, vCv wc.1 hc.1 C lc.length cc] w fun e w' => e = .returned (.bool true) ∧ New w w' := by
  obtain ⟨ta, hta⟩ : ∃ ts, ts = la.take 17 := ⟨_, rfl⟩
  obtain ⟨tb, htb⟩ : ∃ ts, ts = lb.take 17 := ⟨_, rfl⟩
  obtain ⟨tc, htc⟩ : ∃ ts, ts = lc.take 17 := ⟨_, rfl⟩
  have HA64 : Hid (∀ t ∈ ta, t.length = 64) := Lib.hid fun t h => hla.2 t (by rw [hta] at h; exact List.mem_of_mem_take h)
  have HB64 : Hid (∀ t ∈ tb, t.length = 64) := Lib.hid fun t h => hlb.2 t (by rw [htb] at h; exact List.mem_of_mem_take h)
  have HC64 : Hid (∀ t ∈ tc, t.length = 64) := Lib.hid fun t h => hlc.2 t (by rw [htc] at h; exact List.mem_of_mem_take h)
  obtain ⟨W3, hW3⟩ : ∃ W3, W3 = ((w.alloc (.cells (cC wa.1 ha.1 A la.length ca) 43)).alloc (.cells (cC wb.1 hb.1 B lb.length cb) 43)).alloc (.cells (cC wc.1 hc.1 C lc.length cc) 43) := ⟨_, rfl⟩
  have hn3 : New w W3 := by rw [hW3]; exact ((new_alloc w _).alloc _).alloc _
  have h0 : BoxA W3 w.heap.size 43 (cC wa.1 ha.1 A la.length ca) := by rw [hW3]; exact ((BoxA.new w _ _).later (new_alloc _ _)).later (new_alloc _ _)
  have h1 : BoxA W3 (w.heap.size + 1) 43 (cC wb.1 hb.1 B lb.length cb) := by
    have := BoxA.new (w.alloc (.cells (cC wa.1 ha.1 A la.length ca) 43)) 43 (cC wb.1 hb.1 B lb.length cb)
    rw [World.size_alloc] at this
    rw [hW3]; exact this.later (new_alloc _ _)
  have h2 : BoxA W3 (w.heap.size + 1 + 1) 43 (cC wc.1 hc.1 C lc.length cc) := by
    have := BoxA.new ((w.alloc (.cells (cC wa.1 ha.1 A la.length ca) 43)).alloc (.cells (cC wb.1 hb.1 B lb.length cb) 43)) 43 (cC wc.1 hc.1 C lc.length cc)
    simp only [World.size_alloc] at this
    rw [hW3]; exact this
  have HN := Lib.hid hn3
  have H0 := Lib.hid h0
  have H1 := Lib.hid h1
  have H2 := Lib.hid h2
  have HLA := Lib.hid (hla.new hn3)
  have HLB := Lib.hid (hlb.new hn3)
  have HLC := Lib.hid (hlc.new hn3)
  have HTA := Lib.hid hta
  have HTB := Lib.hid htb
  have HTC := Lib.hid htc
  have hsz := size_canvas
  clear hn3 h0 h1 h2 hla hlb hlc hta htb htc
  go_enter Try.func7, Try.ntmps7
  go_wp2_with fail
  rw [← hW3]
  clear hW3
  refine (law_wakes _).mono ?_
  rintro e w0 ⟨rfl, hN⟩
  have hN := hN.trans (Below.drew (new_refl w0))
  have HN := Lib.hid (HN.out.trans hN)
  have H0 := Lib.hid (H0.out.later hN)
  have H1 := Lib.hid (H1.out.later hN)
  have H2 := Lib.hid (H2.out.later hN)
  have HLA := Lib.hid (HLA.out.new hN)
  have HLB := Lib.hid (HLB.out.new hN)
  have HLC := Lib.hid (HLC.out.new hN)
  clear hN
  go_wp2_with fail
  -- a, b, c := own(x), own(y), own(z)
  refine wp_region_L (fun w' => New w0.drew w') [11] (by kernel_rfl) ?_
  generalize w0.drew = W0 at *
  have HS := new_refl W0
  refine wpAnyL_take (i := 0) rfl rfl (by kernel_rfl) (fun _ _ _ h => h) (by rfl) (fun W hW => exec_load_mid (.tmp 3) rfl _ _ rfl [_, _, _] _ (H0.out.later hW).range Try.underlying43 rfl hsz) (by assumption) ?_
  simp only [Act.put, List.setIfInBounds_toArray, List.set_cons_zero, List.set_cons_succ]
  refine wpAnyL_take (i := 2) rfl rfl (by kernel_rfl) (fun _ _ _ h => h) (by rfl) (fun W hW => exec_load_mid (.tmp 4) rfl _ _ rfl [_, _, _] _ (H1.out.later hW).range Try.underlying43 rfl hsz) (by assumption) ?_
  simp only [Act.put, List.setIfInBounds_toArray, List.set_cons_zero, List.set_cons_succ]
  refine wpAnyL_take (i := 4) rfl rfl (by kernel_rfl) (fun _ _ _ h => h) (by rfl) (fun W hW => exec_load_mid (.tmp 5) rfl _ _ rfl [_, _, _] _ (H2.out.later hW).range Try.underlying43 rfl hsz) (by assumption) ?_
  simp only [Act.put, List.setIfInBounds_toArray, List.set_cons_zero, List.set_cons_succ]
  refine wpAnyL_name fun a0 ha0 => ?_
  refine wpAnyL_inv rfl [1, 3, 5, 6, 7, 8] #[true, true, true, true, true, true, true, true, true, false, false, false] (J3 W0 wa.1 ha.1 ta wb.1 hb.1 tb wc.1 hc.1 tc a0) ?step 6 3 [_] _ a0 W0 (by kernel_rfl) (List.mem_singleton.2 rfl) HS ?start ?goon
  case start =>
    refine ⟨undef, undef, undef, undef, undef, undef, 0, 0, 0, by subst ha0; rfl, ?_, ?_, ?_, ?_, ?_, ?_, ?_, ?_, ?_⟩ <;> (intro h; exact absurd h (by decide))
  case goon =>
    intro a w4 hS hJ
    obtain ⟨u29, u31, u33, u7, u8, u9, q7, q8, q9, rfl, f1, f3, f5, f6, f7, f8, n67, n68, n78⟩ := hJ
    obtain ⟨A1, c1, rfl, o1⟩ := f1 rfl
    obtain ⟨A3, c3, rfl, o3⟩ := f3 rfl
    obtain ⟨A5, c5, rfl, o5⟩ := f5 rfl
    obtain ⟨rfl, b7, l7⟩ := f6 rfl
    obtain ⟨rfl, b8, l8⟩ := f7 rfl
    obtain ⟨rfl, b9, l9⟩ := f8 rfl
    replace n67 := n67 rfl rfl
    replace n68 := n68 rfl rfl
    replace n78 := n78 rfl rfl
    subst ha0
    simp only [Act.put, List.setIfInBounds_toArray, List.set_cons_zero, List.set_cons_succ]
    refine wpAnyL_one (i := 9) rfl rfl (by kernel_rfl) (by rfl) (fun K hK => ?_)
    refine wp_store_C (.tmp 7) (.tmp 29) rfl q7 rfl wa.1 ha.1 A1 ta.length c1 rfl b7 ?_
    rintro w5 hb7 hc5
    refine hK.out _ _ (hS.trans' hc5 (fun k hk => by omega)) ?_
    replace o1 := o1.chg hc5 (o1.apart b7 (by decide))
    replace o3 := o3.chg hc5 (o3.apart b7 (by decide))
    replace o5 := o5.chg hc5 (o5.apart b7 (by decide))
    replace hS := hS.trans' hc5 (fun k hk => by omega)
    replace b8 := b8.chg hc5 (Ne.symm n67)
    replace b9 := b9.chg hc5 (Ne.symm n68)
    clear hK K hc5 b7
    simp only [Act.put, List.setIfInBounds_toArray, List.set_cons_zero, List.set_cons_succ]
    refine wpAnyL_one (i := 10) rfl rfl (by kernel_rfl) (by rfl) (fun K hK => ?_)
    refine wp_store_C (.tmp 8) (.tmp 31) rfl q8 rfl wb.1 hb.1 A3 tb.length c3 rfl b8 ?_
    rintro w6 hb8 hc6
    refine hK.out _ _ (hS.trans' hc6 (fun k hk => by omega)) ?_
    replace o1 := o1.chg hc6 (o1.apart b8 (by decide))
    replace o3 := o3.chg hc6 (o3.apart b8 (by decide))
    replace o5 := o5.chg hc6 (o5.apart b8 (by decide))
    replace hS := hS.trans' hc6 (fun k hk => by omega)
    replace hb7 := hb7.chg hc6 n67
    replace b9 := b9.chg hc6 (Ne.symm n78)
    clear hK K hc6 b8
    simp only [Act.put, List.setIfInBounds_toArray, List.set_cons_zero, List.set_cons_succ]
    refine wpAnyL_tail 11 rfl rfl (by decide) (by kernel_rfl) ?_
    refine wplG_store_C (by rfl) (.tmp 9) (.tmp 33) rfl q9 rfl wc.1 hc.1 A5 tc.length c5 rfl b9 ?_
    rintro w7 hb9 hc7
    replace o1 := OwnT.rdT (o1.chg hc7 (o1.apart b9 (by decide))) (Nat.le_refl _)
    replace o3 := OwnT.rdT (o3.chg hc7 (o3.apart b9 (by decide))) (Nat.le_refl _)
    replace o5 := OwnT.rdT (o5.chg hc7 (o5.apart b9 (by decide))) (Nat.le_refl _)
    have HN := Lib.hid (HN.out.trans (hS.trans' hc7 (fun k hk => by omega)))
    have H7 := Lib.hid (hb7.chg hc7 n68)
    have H8 := Lib.hid (hb8.chg hc7 n78)
    have H9 := Lib.hid hb9
    have TA := Lib.hid o1
    have TB := Lib.hid o3
    have TC := Lib.hid o5
    clear f1 f3 f5 f6 f7 f8 n67 n68 n78 l7 l8 l9 hS hc7 hb7 hb8 hb9 b9 o1 o3 o5 H0 H1 H2 HLA HLB HLC HTA HTB HTC hsz HS
    obtain ⟨k0, k1, k2, -⟩ := H7.out.of3
    obtain ⟨m0, m1, m2, -⟩ := H8.out.of3
    simp only [Act.put, List.setIfInBounds_toArray, List.set_cons_zero, List.set_cons_succ]
    go_wp2_with fail
    have hcv := rn_Patch _ _ _ _ wa.1 ha.1 A1 c1 ta wb.1 hb.1 A3 c3 tb w7 TA.out TB.out (Nat.le_refl _)
    refine hcv.mono ?_
    clear hcv k0 k1 k2 m0 m1 m2
    by_cases hpe : (patchI wa.1 ha.1 ta wb.1 hb.1 tb).2 = 0
    rotate_left
    · have hp1 := patchI_no hpe
      generalize patchI wa.1 ha.1 ta wb.1 hb.1 tb = pp at *
      rintro e w8 ⟨A8, c8, rfl, hN, hO⟩
      have HN := Lib.hid (HN.out.trans hN)
      have hpn : (pp.2 != 0) = true := by simp [hpe]
      rw [hp1]
      clear hN hO hp1 hpe
      go_wp2_with fail
      go_ret
      exact ⟨rfl, HN.out⟩
    obtain ⟨e1, e2, hra, hrb, hpt⟩ := patchI_ok hpe
    rw [hpt]
    obtain rfl : wa = wb := Subtype.ext e1
    obtain rfl : ha = hb := Subtype.ext e2
    have hrd := readPa_canvB (ta := ta) hrb HB64.out [n8 7, n8 7]
    have hbl := canvB_length wa.1 ha.1 (ZP ta) tb
    have hbl2 := bytesC_le (ZP ta) tb [] HB64.out
    obtain ⟨hla16, hla, _⟩ := right_len _ _ _ hra
    obtain ⟨hlb16, hlb, _⟩ := right_len _ _ _ hrb
    have HRA := Lib.hid hra
    have HRB := Lib.hid hrb
    have HAB := Lib.hid (show tb.length = ta.length by omega)
    have HA16 := Lib.hid hla16
    obtain ⟨pb, hpb⟩ : ∃ pb, canvB wa.1 ha.1 (ZP ta) tb = pb := ⟨_, rfl⟩
    rw [hpb] at hrd hbl ⊢
    have HPL := Lib.hid (show pb.length ≤ 6000 by omega)
    have HRD := Lib.hid hrd
    clear e1 e2 hra hrb hpt hpe hrd hbl hbl2 hla16 hla hlb16 hlb hpb
    rintro e w8 ⟨A8, c8, rfl, hN, hO⟩
    dsimp only at hO ⊢
    have hN := hN.trans (Below.drew (new_refl w8))
    have HN := Lib.hid (HN.out.trans hN)
    have H7 := Lib.hid (H7.out.later hN)
    have H8 := Lib.hid (H8.out.later hN)
    have H9 := Lib.hid (H9.out.later hN)
    have TA := Lib.hid ((TA.out.new hN).mono' hN.size)
    have TB := Lib.hid ((TB.out.new hN).mono' hN.size)
    have TC := Lib.hid ((TC.out.new hN).mono' hN.size)
    have HP := Lib.hid ((hO.rd (Nat.le_refl _)).new (Below.drew (new_refl w8)))
    clear hN hO
    go_wp2_with fail
    -- got, n, f := Apply(a, append(Clone(p), 7, 7))
    refine wp_region_L (fun w' => New w8.drew w') [] (by kernel_rfl) ?_
    generalize w8.drew = V0 at *
    have HS := new_refl V0
    refine wpAnyL_take (i := 0) rfl rfl (by kernel_rfl) (fun _ _ _ h => h) (by rfl) (fun W hW => exec_load_mid (.tmp 7) rfl _ _ rfl [_, _, _] _ (H7.out.later hW).range Try.underlying43 rfl size_canvas) (by assumption) ?_
    simp only [Act.put, List.setIfInBounds_toArray, List.set_cons_zero, List.set_cons_succ]
    refine wpAnyL_move (i := 1) (v := ?_) rfl rfl (by kernel_rfl) (fun _ _ _ h => h) (by rfl) (fun W => ?_) (by assumption) ?_
    rotate_left
    · go_simp
      (try with_reducible rfl)
    rotate_right
    simp only [Act.put, List.setIfInBounds_toArray, List.set_cons_zero, List.set_cons_succ]
    refine wpAnyL_name fun a0 ha0 => ?_
    refine wpAnyL_inv rfl [2, 3, 4, 5, 6, 7, 8, 9, 10, 11, 12, 13] #[true, true, true, true, true, true, true, true, true, true, true, true, true, true] (J7 V0 wa.1 ha.1 tb pb a0) ?step7 12 0 [_] _ a0 V0 (by kernel_rfl) (List.mem_singleton.2 rfl) HS ?start7 ?goon7
    case start7 =>
      refine ⟨undef, undef, undef, undef, undef, undef, undef, undef, undef, undef, undef, 0, none, 0, by subst ha0; simp only [Act.put, List.setIfInBounds_toArray, List.set_cons_zero, List.set_cons_succ], ?_, ?_, ?_, ?_, ?_, ?_, ?_, ?_, ?_, ?_, ?_, ?_, ?_, ?_, ?_, ?_, ?_, ?_⟩ <;> (intro h; exact absurd h (by decide))
    case step7 =>
      intro i hi listed a w1 hr hS hJ K hK o ho
      simp only [List.mem_cons, List.not_mem_nil, or_false] at hi
      rcases hi with rfl | rfl | rfl | rfl | rfl | rfl | rfl | rfl | rfl | rfl | rfl | rfl
      · -- 2
        obtain rfl := Option.some.inj ho
        obtain ⟨u48, u49, u50, u51, u12, u45, u52, u53, u54, u13, u14, q12, A5, c5, rfl, f2, f3, f4, f5, f54, f10, b10, b11, g6, g7, g8, g9, g12, g13, k6, k7, k11, m11⟩ := hJ
        obtain ⟨hlt, hnl⟩ := ready_not hr
        refine ⟨by rfl, ?_⟩
        subst ha0
        simp only [Act.put, List.setIfInBounds_toArray, List.set_cons_zero, List.set_cons_succ]
        have F5 := Lib.hid f5
        clear f5
        go_simp
        have f5 := F5.out
        refine (oc_clone8 _ _ _ pb _ (HP.out.new hS) (by have := HPL.out; omega)).mono ?_
        rintro e w2 ⟨A', c', rfl, hN, hO⟩
        refine hK.out _ _ (hS.trans hN) ⟨(.slice A' pb.length c'), u49, u50, u51, u12, u45, u52, u53, u54, u13, u14, q12, A5, c5, ?_, ?_, ?_, ?_, ?_, ?_, ?_, ?_, ?_, ?_, ?_, ?_, ?_, ?_, ?_, ?_, ?_, ?_, ?_⟩
        · (try simp only [Act.put, List.setIfInBounds_toArray, List.set_cons_zero, List.set_cons_succ]) <;> (try rfl)
        · intro _ _; exact ⟨A', c', rfl, hO.mono hS.size⟩
        · intro h h4; obtain ⟨A, e1, e2⟩ := f3 (by rwa [set_other (by decide)] at h) (by rwa [set_other (by decide)] at h4); exact ⟨A, e1, (e2.new hN).mono (Nat.le_refl _) hN.size⟩
        · intro h h4; obtain ⟨A, c, e1, e2⟩ := f4 (by rwa [set_other (by decide)] at h) (by rwa [set_other (by decide)] at h4); exact ⟨A, c, e1, (e2.new hN).mono (Nat.le_refl _) hN.size⟩
        · intro h; obtain ⟨e1, e2⟩ := f5 (by rwa [set_other (by decide)] at h); exact ⟨e1, e2.new hN⟩
        · intro h; rw [set_other (by decide)]; exact f54 (by rwa [set_other (by decide)] at h)
        · intro h; exact f10 (by rwa [set_other (by decide)] at h)
        · intro h h4; exact (b10 (by rwa [set_other (by decide)] at h) (by rwa [set_other (by decide)] at h4)).later hN
        · intro h; exact (b11 (by rwa [set_other (by decide)] at h)).later hN
        · intro h; exact g6 (by rwa [set_other (by decide)] at h)
        · intro h; exact g7 (by rwa [set_other (by decide)] at h)
        · intro h; exact g8 (by rwa [set_other (by decide)] at h)
        · intro h; exact g9 (by rwa [set_other (by decide)] at h)
        · intro h; exact g12 (by rwa [set_other (by decide)] at h)
        · intro h; exact g13 (by rwa [set_other (by decide)] at h)
        · intro h; rw [set_other (by decide)]; exact k6 (by rwa [set_other (by decide)] at h)
        · intro h; rw [set_other (by decide)]; exact k7 (by rwa [set_other (by decide)] at h)
        · intro h; rw [set_other (by decide)]; exact k11 (by rwa [set_other (by decide)] at h)
        · intro h; rw [set_other (by decide)]; exact m11 (by rwa [set_other (by decide)] at h)
      · -- 3
        obtain rfl := Option.some.inj ho
        obtain ⟨u48, u49, u50, u51, u12, u45, u52, u53, u54, u13, u14, q12, A5, c5, rfl, f2, f3, f4, f5, f54, f10, b10, b11, g6, g7, g8, g9, g12, g13, k6, k7, k11, m11⟩ := hJ
        obtain ⟨hlt, hnl⟩ := ready_not hr
        refine ⟨by rfl, ?_⟩
        subst ha0
        simp only [Act.put, List.setIfInBounds_toArray, List.set_cons_zero, List.set_cons_succ]
        have F5 := Lib.hid f5
        clear f5
        go_simp
        have f5 := F5.out
        have hN := new_alloc w1 (.cells #[.int .u8 7, .int .u8 7] 5)
        refine hK.out _ _ (hS.trans hN) ⟨u48, (.slice (some ⟨w1.heap.size, 0, none⟩) 2 2), u50, u51, u12, u45, u52, u53, u54, u13, u14, q12, A5, c5, ?_, ?_, ?_, ?_, ?_, ?_, ?_, ?_, ?_, ?_, ?_, ?_, ?_, ?_, ?_, ?_, ?_, ?_, ?_⟩
        · (try simp only [Act.put, List.setIfInBounds_toArray, List.set_cons_zero, List.set_cons_succ]) <;> (try rfl)
        · intro h h4; obtain ⟨A, c, e1, e2⟩ := f2 (by rwa [set_other (by decide)] at h) (by rwa [set_other (by decide)] at h4); exact ⟨A, c, e1, e2.new hN⟩
        · intro _ _; exact ⟨_, rfl, ((rd_build8 w1 [n8 7, n8 7] (by decide)).mono hS.size (by simp))⟩
        · intro h h4; obtain ⟨A, c, e1, e2⟩ := f4 (by rwa [set_other (by decide)] at h) (by rwa [set_other (by decide)] at h4); exact ⟨A, c, e1, (e2.new hN).mono (Nat.le_refl _) hN.size⟩
        · intro h; obtain ⟨e1, e2⟩ := f5 (by rwa [set_other (by decide)] at h); exact ⟨e1, e2.new hN⟩
        · intro h; rw [set_other (by decide)]; exact f54 (by rwa [set_other (by decide)] at h)
        · intro h; exact f10 (by rwa [set_other (by decide)] at h)
        · intro h h4; exact (b10 (by rwa [set_other (by decide)] at h) (by rwa [set_other (by decide)] at h4)).later hN
        · intro h; exact (b11 (by rwa [set_other (by decide)] at h)).later hN
        · intro h; exact g6 (by rwa [set_other (by decide)] at h)
        · intro h; exact g7 (by rwa [set_other (by decide)] at h)
        · intro h; exact g8 (by rwa [set_other (by decide)] at h)
        · intro h; exact g9 (by rwa [set_other (by decide)] at h)
        · intro h; exact g12 (by rwa [set_other (by decide)] at h)
        · intro h; exact g13 (by rwa [set_other (by decide)] at h)
        · intro h; rw [set_other (by decide)]; exact k6 (by rwa [set_other (by decide)] at h)
        · intro h; rw [set_other (by decide)]; exact k7 (by rwa [set_other (by decide)] at h)
        · intro h; rw [set_other (by decide)]; exact k11 (by rwa [set_other (by decide)] at h)
        · intro h; rw [set_other (by decide)]; exact m11 (by rwa [set_other (by decide)] at h)
      · -- 4
        have d4_2 := ready_dep hr (show waitsFor .any _ [4] 2 = true by kernel_rfl)
        have d4_3 := ready_dep hr (show waitsFor .any _ [4] 3 = true by kernel_rfl)
        obtain rfl := Option.some.inj ho
        obtain ⟨u48, u49, u50, u51, u12, u45, u52, u53, u54, u13, u14, q12, A5, c5, rfl, f2, f3, f4, f5, f54, f10, b10, b11, g6, g7, g8, g9, g12, g13, k6, k7, k11, m11⟩ := hJ
        obtain ⟨hlt, hnl⟩ := ready_not hr
        obtain ⟨A2, c2, rfl, o2⟩ := f2 d4_2 hnl
        obtain ⟨A3', rfl, o3⟩ := f3 d4_3 hnl
        refine ⟨by rfl, ?_⟩
        subst ha0
        simp only [Act.put, List.setIfInBounds_toArray, List.set_cons_zero, List.set_cons_succ]
        refine wp_append8 (ts := #[]) (.tmp 48) (.tmp 49) rfl rfl rfl o2 o3 (by have := HPL.out; simp; omega) hS.size ?_
        intro A' c' w2 hO hg
        have hcg := (Chg.refl (fun k => (Value.slice A2 pb.length c2).ownBlock = some k) w1).grown hg (fun k hk => .inl hk)
        refine hK.out _ _ (hS.trans' hcg (fun k hk h => by have := (o2.lt k h).1; omega)) ⟨(.slice A2 pb.length c2), (.slice A3' 2 2), (.slice A' (pb.length + 2) c'), u51, u12, u45, u52, u53, u54, u13, u14, q12, A5, c5, ?_, ?_, ?_, ?_, ?_, ?_, ?_, ?_, ?_, ?_, ?_, ?_, ?_, ?_, ?_, ?_, ?_, ?_, ?_⟩
        · (try simp only [Act.put, List.setIfInBounds_toArray, List.set_cons_zero, List.set_cons_succ]) <;> (try rfl)
        · intro h h4; rw [set_self hlt] at h4; cases h4
        · intro h h4; rw [set_self hlt] at h4; cases h4
        · intro _ _; exact ⟨A', c', rfl, (hO.rd (Nat.le_refl _)).mono (Nat.zero_le _) (Nat.le_refl _)⟩
        · intro h; rw [set_other (by decide)] at h; rw [f54 h] at hnl; cases hnl
        · intro _; exact set_self hlt
        · intro h; exact f10 (by rwa [set_other (by decide)] at h)
        · intro h h4; exact (b10 (by rwa [set_other (by decide)] at h) (by rwa [set_other (by decide)] at h4)).chg hcg (fun hk => o2.apart (b10 (by rwa [set_other (by decide)] at h) (by rwa [set_other (by decide)] at h4)) (by decide) _ hk rfl)
        · intro h; rw [set_other (by decide)] at h; rw [f54 (k11 h)] at hnl; cases hnl
        · intro h; exact g6 (by rwa [set_other (by decide)] at h)
        · intro h; exact g7 (by rwa [set_other (by decide)] at h)
        · intro h; exact g8 (by rwa [set_other (by decide)] at h)
        · intro h; exact g9 (by rwa [set_other (by decide)] at h)
        · intro h; exact g12 (by rwa [set_other (by decide)] at h)
        · intro h; exact g13 (by rwa [set_other (by decide)] at h)
        · intro h; rw [set_other (by decide)]; exact k6 (by rwa [set_other (by decide)] at h)
        · intro h; rw [set_other (by decide)]; exact k7 (by rwa [set_other (by decide)] at h)
        · intro h; rw [set_other (by decide)]; exact k11 (by rwa [set_other (by decide)] at h)
        · intro h; rw [set_other (by decide)]; exact m11 (by rwa [set_other (by decide)] at h)
      · -- 5
        have d5_4 := ready_dep hr (show waitsFor .any _ [5] 4 = true by kernel_rfl)
        obtain rfl := Option.some.inj ho
        obtain ⟨u48, u49, u50, u51, u12, u45, u52, u53, u54, u13, u14, q12, A5, c5, rfl, f2, f3, f4, f5, f54, f10, b10, b11, g6, g7, g8, g9, g12, g13, k6, k7, k11, m11⟩ := hJ
        obtain ⟨hlt, hnl⟩ := ready_not hr
        obtain ⟨A4, c4, rfl, o4⟩ := f4 d5_4 hnl
        refine ⟨by rfl, ?_⟩
        subst ha0
        simp only [Act.put, List.setIfInBounds_toArray, List.set_cons_zero, List.set_cons_succ]
        have hap := rn_Apply 0 w1.heap.size A4 c4 (pb ++ [n8 7, n8 7]) _ _ wa.1 ha.1 A1 c1 ta w1 (by rw [List.length_append]; exact o4) (Nat.le_refl _) (TA.out.new hS) hS.size (by rw [List.length_append]; have := HPL.out; simp; omega)
        rw [show applyI wa.1 ha.1 ta (pb ++ [n8 7, n8 7]) = (some (wa.1, ha.1, tb, pb.length), 200) by rw [applyI, if_pos HRA.out, HRD.out], List.length_append] at hap
        have F5 := Lib.hid f5
        clear f5
        go_simp
        have f5 := F5.out
        refine hap.mono ?_
        rintro e w2 ⟨hN, ⟨wd, hg, l, n, A, c, h1, rfl, hO⟩ | ⟨h1, _⟩⟩
        rotate_left
        · cases h1
        injection h1 with h1
        injection h1 with e1 h1
        injection h1 with e2 h1
        injection h1 with e3 e4
        subst e1 e2 e3 e4
        refine hK.out _ _ (hS.trans hN) ⟨u48, u49, (.slice A4 (pb.length + 2) c4), (.tuple #[vCv wa.1 ha.1 A tb.length c, .int .i64 pb.length, .int .i64 0]), u12, u45, u52, u53, u54, u13, u14, q12, A, c, ?_, ?_, ?_, ?_, ?_, ?_, ?_, ?_, ?_, ?_, ?_, ?_, ?_, ?_, ?_, ?_, ?_, ?_, ?_⟩
        · (try simp only [Act.put, List.setIfInBounds_toArray, List.set_cons_zero, List.set_cons_succ]) <;> (try rfl)
        · intro h h4; rw [set_other (by decide), d5_4] at h4; cases h4
        · intro h h4; rw [set_other (by decide), d5_4] at h4; cases h4
        · intro h h4; rw [set_self hlt] at h4; cases h4
        · intro h; exact ⟨rfl, hO.mono hS.size⟩
        · intro h; rw [set_other (by decide)]; exact d5_4
        · intro h; exact f10 (by rwa [set_other (by decide)] at h)
        · intro h h4; exact (b10 (by rwa [set_other (by decide)] at h) (by rwa [set_other (by decide)] at h4)).later hN
        · intro h; rw [set_other (by decide)] at h; rw [k11 h] at hnl; cases hnl
        · intro h; rw [set_other (by decide)] at h; rw [k6 h] at hnl; cases hnl
        · intro h; rw [set_other (by decide)] at h; rw [k7 h] at hnl; cases hnl
        · intro h; exact g8 (by rwa [set_other (by decide)] at h)
        · intro h; exact g9 (by rwa [set_other (by decide)] at h)
        · intro h; exact g12 (by rwa [set_other (by decide)] at h)
        · intro h; exact g13 (by rwa [set_other (by decide)] at h)
        · intro _; exact set_self hlt
        · intro _; exact set_self hlt
        · intro _; exact set_self hlt
        · intro h; rw [set_other (by decide)]; exact m11 (by rwa [set_other (by decide)] at h)
      · -- 6
        have d6_5 := ready_dep hr (show waitsFor .any _ [6] 5 = true by kernel_rfl)
        obtain rfl := Option.some.inj ho
        obtain ⟨u48, u49, u50, u51, u12, u45, u52, u53, u54, u13, u14, q12, A5, c5, rfl, f2, f3, f4, f5, f54, f10, b10, b11, g6, g7, g8, g9, g12, g13, k6, k7, k11, m11⟩ := hJ
        obtain ⟨hlt, hnl⟩ := ready_not hr
        obtain ⟨e51, o5⟩ := f5 d6_5
        subst e51
        refine ⟨by rfl, ?_⟩
        subst ha0
        simp only [Act.put, List.setIfInBounds_toArray, List.set_cons_zero, List.set_cons_succ]
        have F5 := Lib.hid f5
        clear f5
        go_simp
        have f5 := F5.out
        have hN := new_refl w1
        refine hK.out _ _ hS ⟨u48, u49, u50, (.tuple #[vCv wa.1 ha.1 A5 tb.length c5, .int .i64 pb.length, .int .i64 0]), u12, (.tuple #[vCv wa.1 ha.1 A5 tb.length c5, .int .i64 pb.length, .int .i64 0]), u52, u53, u54, u13, u14, q12, A5, c5, ?_, ?_, ?_, ?_, ?_, ?_, ?_, ?_, ?_, ?_, ?_, ?_, ?_, ?_, ?_, ?_, ?_, ?_, ?_⟩
        · (try simp only [Act.put, List.setIfInBounds_toArray, List.set_cons_zero, List.set_cons_succ]) <;> (try rfl)
        · intro h h4; obtain ⟨A, c, e1, e2⟩ := f2 (by rwa [set_other (by decide)] at h) (by rwa [set_other (by decide)] at h4); exact ⟨A, c, e1, e2.new hN⟩
        · intro h h4; obtain ⟨A, e1, e2⟩ := f3 (by rwa [set_other (by decide)] at h) (by rwa [set_other (by decide)] at h4); exact ⟨A, e1, (e2.new hN).mono (Nat.le_refl _) hN.size⟩
        · intro h h4; obtain ⟨A, c, e1, e2⟩ := f4 (by rwa [set_other (by decide)] at h) (by rwa [set_other (by decide)] at h4); exact ⟨A, c, e1, (e2.new hN).mono (Nat.le_refl _) hN.size⟩
        · intro h; exact ⟨rfl, o5⟩
        · intro h; rw [set_other (by decide)]; exact f54 (by rwa [set_other (by decide)] at h)
        · intro h; exact f10 (by rwa [set_other (by decide)] at h)
        · intro h h4; exact (b10 (by rwa [set_other (by decide)] at h) (by rwa [set_other (by decide)] at h4)).later hN
        · intro h; exact (b11 (by rwa [set_other (by decide)] at h)).later hN
        · intro _; rfl
        · intro h; exact g7 (by rwa [set_other (by decide)] at h)
        · intro h; exact g8 (by rwa [set_other (by decide)] at h)
        · intro h; exact g9 (by rwa [set_other (by decide)] at h)
        · intro h; exact g12 (by rwa [set_other (by decide)] at h)
        · intro h; exact g13 (by rwa [set_other (by decide)] at h)
        · intro _; rw [set_other (by decide)]; exact d6_5
        · intro h; rw [set_other (by decide)]; exact k7 (by rwa [set_other (by decide)] at h)
        · intro h; rw [set_other (by decide)]; exact k11 (by rwa [set_other (by decide)] at h)
        · intro h; rw [set_other (by decide)]; exact m11 (by rwa [set_other (by decide)] at h)
      · -- 7
        have d7_6 := ready_dep hr (show waitsFor .any _ [7] 6 = true by kernel_rfl)
        obtain rfl := Option.some.inj ho
        obtain ⟨u48, u49, u50, u51, u12, u45, u52, u53, u54, u13, u14, q12, A5, c5, rfl, f2, f3, f4, f5, f54, f10, b10, b11, g6, g7, g8, g9, g12, g13, k6, k7, k11, m11⟩ := hJ
        obtain ⟨hlt, hnl⟩ := ready_not hr
        have e45 := g6 d7_6
        subst e45
        refine ⟨by rfl, ?_⟩
        subst ha0
        simp only [Act.put, List.setIfInBounds_toArray, List.set_cons_zero, List.set_cons_succ]
        have F5 := Lib.hid f5
        clear f5
        go_simp
        have f5 := F5.out
        have hN := new_refl w1
        refine hK.out _ _ hS ⟨u48, u49, u50, u51, u12, (.tuple #[vCv wa.1 ha.1 A5 tb.length c5, .int .i64 pb.length, .int .i64 0]), (vCv wa.1 ha.1 A5 tb.length c5), u53, u54, u13, u14, q12, A5, c5, ?_, ?_, ?_, ?_, ?_, ?_, ?_, ?_, ?_, ?_, ?_, ?_, ?_, ?_, ?_, ?_, ?_, ?_, ?_⟩
        · (try simp only [Act.put, List.setIfInBounds_toArray, List.set_cons_zero, List.set_cons_succ]) <;> (try rfl)
        · intro h h4; obtain ⟨A, c, e1, e2⟩ := f2 (by rwa [set_other (by decide)] at h) (by rwa [set_other (by decide)] at h4); exact ⟨A, c, e1, e2.new hN⟩
        · intro h h4; obtain ⟨A, e1, e2⟩ := f3 (by rwa [set_other (by decide)] at h) (by rwa [set_other (by decide)] at h4); exact ⟨A, e1, (e2.new hN).mono (Nat.le_refl _) hN.size⟩
        · intro h h4; obtain ⟨A, c, e1, e2⟩ := f4 (by rwa [set_other (by decide)] at h) (by rwa [set_other (by decide)] at h4); exact ⟨A, c, e1, (e2.new hN).mono (Nat.le_refl _) hN.size⟩
        · intro h; obtain ⟨e1, e2⟩ := f5 (by rwa [set_other (by decide)] at h); exact ⟨e1, e2.new hN⟩
        · intro h; rw [set_other (by decide)]; exact f54 (by rwa [set_other (by decide)] at h)
        · intro h; exact f10 (by rwa [set_other (by decide)] at h)
        · intro h h4; exact (b10 (by rwa [set_other (by decide)] at h) (by rwa [set_other (by decide)] at h4)).later hN
        · intro h; exact (b11 (by rwa [set_other (by decide)] at h)).later hN
        · intro _; rfl
        · intro _; rfl
        · intro h; exact g8 (by rwa [set_other (by decide)] at h)
        · intro h; exact g9 (by rwa [set_other (by decide)] at h)
        · intro h; exact g12 (by rwa [set_other (by decide)] at h)
        · intro h; exact g13 (by rwa [set_other (by decide)] at h)
        · intro h; rw [set_other (by decide)]; exact k6 (by rwa [set_other (by decide)] at h)
        · intro _; rw [set_other (by decide)]; exact k6 d7_6
        · intro h; rw [set_other (by decide)]; exact k11 (by rwa [set_other (by decide)] at h)
        · intro h; rw [set_other (by decide)]; exact m11 (by rwa [set_other (by decide)] at h)
      · -- 8
        have d8_6 := ready_dep hr (show waitsFor .any _ [8] 6 = true by kernel_rfl)
        obtain rfl := Option.some.inj ho
        obtain ⟨u48, u49, u50, u51, u12, u45, u52, u53, u54, u13, u14, q12, A5, c5, rfl, f2, f3, f4, f5, f54, f10, b10, b11, g6, g7, g8, g9, g12, g13, k6, k7, k11, m11⟩ := hJ
        obtain ⟨hlt, hnl⟩ := ready_not hr
        have e45 := g6 d8_6
        subst e45
        refine ⟨by rfl, ?_⟩
        subst ha0
        simp only [Act.put, List.setIfInBounds_toArray, List.set_cons_zero, List.set_cons_succ]
        have F5 := Lib.hid f5
        clear f5
        go_simp
        have f5 := F5.out
        have hN := new_refl w1
        refine hK.out _ _ hS ⟨u48, u49, u50, u51, u12, (.tuple #[vCv wa.1 ha.1 A5 tb.length c5, .int .i64 pb.length, .int .i64 0]), u52, (.int .i64 pb.length), u54, u13, u14, q12, A5, c5, ?_, ?_, ?_, ?_, ?_, ?_, ?_, ?_, ?_, ?_, ?_, ?_, ?_, ?_, ?_, ?_, ?_, ?_, ?_⟩
        · (try simp only [Act.put, List.setIfInBounds_toArray, List.set_cons_zero, List.set_cons_succ]) <;> (try rfl)
        · intro h h4; obtain ⟨A, c, e1, e2⟩ := f2 (by rwa [set_other (by decide)] at h) (by rwa [set_other (by decide)] at h4); exact ⟨A, c, e1, e2.new hN⟩
        · intro h h4; obtain ⟨A, e1, e2⟩ := f3 (by rwa [set_other (by decide)] at h) (by rwa [set_other (by decide)] at h4); exact ⟨A, e1, (e2.new hN).mono (Nat.le_refl _) hN.size⟩
        · intro h h4; obtain ⟨A, c, e1, e2⟩ := f4 (by rwa [set_other (by decide)] at h) (by rwa [set_other (by decide)] at h4); exact ⟨A, c, e1, (e2.new hN).mono (Nat.le_refl _) hN.size⟩
        · intro h; obtain ⟨e1, e2⟩ := f5 (by rwa [set_other (by decide)] at h); exact ⟨e1, e2.new hN⟩
        · intro h; rw [set_other (by decide)]; exact f54 (by rwa [set_other (by decide)] at h)
        · intro h; exact f10 (by rwa [set_other (by decide)] at h)
        · intro h h4; exact (b10 (by rwa [set_other (by decide)] at h) (by rwa [set_other (by decide)] at h4)).later hN
        · intro h; exact (b11 (by rwa [set_other (by decide)] at h)).later hN
        · intro _; rfl
        · intro h; exact g7 (by rwa [set_other (by decide)] at h)
        · intro _; rfl
        · intro h; exact g9 (by rwa [set_other (by decide)] at h)
        · intro h; exact g12 (by rwa [set_other (by decide)] at h)
        · intro h; exact g13 (by rwa [set_other (by decide)] at h)
        · intro h; rw [set_other (by decide)]; exact k6 (by rwa [set_other (by decide)] at h)
        · intro h; rw [set_other (by decide)]; exact k7 (by rwa [set_other (by decide)] at h)
        · intro h; rw [set_other (by decide)]; exact k11 (by rwa [set_other (by decide)] at h)
        · intro h; rw [set_other (by decide)]; exact m11 (by rwa [set_other (by decide)] at h)
      · -- 9
        have d9_6 := ready_dep hr (show waitsFor .any _ [9] 6 = true by kernel_rfl)
        obtain rfl := Option.some.inj ho
        obtain ⟨u48, u49, u50, u51, u12, u45, u52, u53, u54, u13, u14, q12, A5, c5, rfl, f2, f3, f4, f5, f54, f10, b10, b11, g6, g7, g8, g9, g12, g13, k6, k7, k11, m11⟩ := hJ
        obtain ⟨hlt, hnl⟩ := ready_not hr
        have e45 := g6 d9_6
        subst e45
        refine ⟨by rfl, ?_⟩
        subst ha0
        simp only [Act.put, List.setIfInBounds_toArray, List.set_cons_zero, List.set_cons_succ]
        have F5 := Lib.hid f5
        clear f5
        go_simp
        have f5 := F5.out
        have hN := new_refl w1
        refine hK.out _ _ hS ⟨u48, u49, u50, u51, u12, (.tuple #[vCv wa.1 ha.1 A5 tb.length c5, .int .i64 pb.length, .int .i64 0]), u52, u53, (.int .i64 0), u13, u14, q12, A5, c5, ?_, ?_, ?_, ?_, ?_, ?_, ?_, ?_, ?_, ?_, ?_, ?_, ?_, ?_, ?_, ?_, ?_, ?_, ?_⟩
        · (try simp only [Act.put, List.setIfInBounds_toArray, List.set_cons_zero, List.set_cons_succ]) <;> (try rfl)
        · intro h h4; obtain ⟨A, c, e1, e2⟩ := f2 (by rwa [set_other (by decide)] at h) (by rwa [set_other (by decide)] at h4); exact ⟨A, c, e1, e2.new hN⟩
        · intro h h4; obtain ⟨A, e1, e2⟩ := f3 (by rwa [set_other (by decide)] at h) (by rwa [set_other (by decide)] at h4); exact ⟨A, e1, (e2.new hN).mono (Nat.le_refl _) hN.size⟩
        · intro h h4; obtain ⟨A, c, e1, e2⟩ := f4 (by rwa [set_other (by decide)] at h) (by rwa [set_other (by decide)] at h4); exact ⟨A, c, e1, (e2.new hN).mono (Nat.le_refl _) hN.size⟩
        · intro h; obtain ⟨e1, e2⟩ := f5 (by rwa [set_other (by decide)] at h); exact ⟨e1, e2.new hN⟩
        · intro h; rw [set_other (by decide)]; exact f54 (by rwa [set_other (by decide)] at h)
        · intro h; exact f10 (by rwa [set_other (by decide)] at h)
        · intro h h4; exact (b10 (by rwa [set_other (by decide)] at h) (by rwa [set_other (by decide)] at h4)).later hN
        · intro h; exact (b11 (by rwa [set_other (by decide)] at h)).later hN
        · intro _; rfl
        · intro h; exact g7 (by rwa [set_other (by decide)] at h)
        · intro h; exact g8 (by rwa [set_other (by decide)] at h)
        · intro _; rfl
        · intro h; exact g12 (by rwa [set_other (by decide)] at h)
        · intro h; exact g13 (by rwa [set_other (by decide)] at h)
        · intro h; rw [set_other (by decide)]; exact k6 (by rwa [set_other (by decide)] at h)
        · intro h; rw [set_other (by decide)]; exact k7 (by rwa [set_other (by decide)] at h)
        · intro h; rw [set_other (by decide)]; exact k11 (by rwa [set_other (by decide)] at h)
        · intro h; rw [set_other (by decide)]; exact m11 (by rwa [set_other (by decide)] at h)
      · -- 10
        obtain rfl := Option.some.inj ho
        obtain ⟨u48, u49, u50, u51, u12, u45, u52, u53, u54, u13, u14, q12, A5, c5, rfl, f2, f3, f4, f5, f54, f10, b10, b11, g6, g7, g8, g9, g12, g13, k6, k7, k11, m11⟩ := hJ
        obtain ⟨hlt, hnl⟩ := ready_not hr
        refine ⟨by rfl, ?_⟩
        subst ha0
        simp only [Act.put, List.setIfInBounds_toArray, List.set_cons_zero, List.set_cons_succ]
        have F5 := Lib.hid f5
        clear f5
        go_simp
        have f5 := F5.out
        have hN := new_alloc w1 (.cells zC 43)
        refine hK.out _ _ (hS.trans hN) ⟨u48, u49, u50, u51, (.pointer (some ⟨w1.heap.size, 0, none⟩)), u45, u52, u53, u54, u13, u14, w1.heap.size, A5, c5, ?_, ?_, ?_, ?_, ?_, ?_, ?_, ?_, ?_, ?_, ?_, ?_, ?_, ?_, ?_, ?_, ?_, ?_, ?_⟩
        · (try simp only [Act.put, List.setIfInBounds_toArray, List.set_cons_zero, List.set_cons_succ]) <;> (try rfl)
        · intro h h4; obtain ⟨A, c, e1, e2⟩ := f2 (by rwa [set_other (by decide)] at h) (by rwa [set_other (by decide)] at h4); exact ⟨A, c, e1, e2.new hN⟩
        · intro h h4; obtain ⟨A, e1, e2⟩ := f3 (by rwa [set_other (by decide)] at h) (by rwa [set_other (by decide)] at h4); exact ⟨A, e1, (e2.new hN).mono (Nat.le_refl _) hN.size⟩
        · intro h h4; obtain ⟨A, c, e1, e2⟩ := f4 (by rwa [set_other (by decide)] at h) (by rwa [set_other (by decide)] at h4); exact ⟨A, c, e1, (e2.new hN).mono (Nat.le_refl _) hN.size⟩
        · intro h; obtain ⟨e1, e2⟩ := f5 (by rwa [set_other (by decide)] at h); exact ⟨e1, e2.new hN⟩
        · intro h; rw [set_other (by decide)]; exact f54 (by rwa [set_other (by decide)] at h)
        · intro _; exact ⟨rfl, hS.size⟩
        · intro _ _; exact BoxA.new _ _ _
        · intro h; rw [set_other (by decide)] at h; rw [m11 h] at hnl; cases hnl
        · intro h; exact g6 (by rwa [set_other (by decide)] at h)
        · intro h; exact g7 (by rwa [set_other (by decide)] at h)
        · intro h; exact g8 (by rwa [set_other (by decide)] at h)
        · intro h; exact g9 (by rwa [set_other (by decide)] at h)
        · intro h; exact g12 (by rwa [set_other (by decide)] at h)
        · intro h; exact g13 (by rwa [set_other (by decide)] at h)
        · intro h; rw [set_other (by decide)]; exact k6 (by rwa [set_other (by decide)] at h)
        · intro h; rw [set_other (by decide)]; exact k7 (by rwa [set_other (by decide)] at h)
        · intro h; rw [set_other (by decide)]; exact k11 (by rwa [set_other (by decide)] at h)
        · intro _; exact set_self hlt
      · -- 11
        have d11_7 := ready_dep hr (show waitsFor .any _ [11] 7 = true by kernel_rfl)
        have d11_10 := ready_dep hr (show waitsFor .any _ [11] 10 = true by kernel_rfl)
        obtain rfl := Option.some.inj ho
        obtain ⟨u48, u49, u50, u51, u12, u45, u52, u53, u54, u13, u14, q12, A5, c5, rfl, f2, f3, f4, f5, f54, f10, b10, b11, g6, g7, g8, g9, g12, g13, k6, k7, k11, m11⟩ := hJ
        obtain ⟨hlt, hnl⟩ := ready_not hr
        have e52 := g7 d11_7
        subst e52
        obtain ⟨e12, l12⟩ := f10 d11_10
        subst e12
        have b12 := b10 d11_10 hnl
        have d5 := k7 d11_7
        have d4 := f54 d5
        obtain ⟨e51, o5⟩ := f5 d5
        refine ⟨by rfl, ?_⟩
        subst ha0
        simp only [Act.put, List.setIfInBounds_toArray, List.set_cons_zero, List.set_cons_succ]
        refine wp_store_C (.tmp 12) (.tmp 52) rfl q12 rfl wa.1 ha.1 A5 tb.length c5 rfl b12 ?_
        rintro w2 hb hcg
        refine hK.out _ _ (hS.trans' hcg (fun k hk => by omega)) ⟨u48, u49, u50, u51, (.pointer (some ⟨q12, 0, none⟩)), u45, (vCv wa.1 ha.1 A5 tb.length c5), u53, u54, u13, u14, q12, A5, c5, ?_, ?_, ?_, ?_, ?_, ?_, ?_, ?_, ?_, ?_, ?_, ?_, ?_, ?_, ?_, ?_, ?_, ?_, ?_⟩
        · (try simp only [Act.put, List.setIfInBounds_toArray, List.set_cons_zero, List.set_cons_succ]) <;> (try rfl)
        · intro h h4; rw [set_other (by decide), d4] at h4; cases h4
        · intro h h4; rw [set_other (by decide), d4] at h4; cases h4
        · intro h h4; rw [set_other (by decide), d5] at h4; cases h4
        · intro _; exact ⟨e51, o5.chg hcg (o5.apart b12 (by decide))⟩
        · intro h; rw [set_other (by decide)]; exact f54 (by rwa [set_other (by decide)] at h)
        · intro _; exact ⟨rfl, l12⟩
        · intro h h4; rw [set_self hlt] at h4; cases h4
        · intro _; exact hb
        · intro h; exact g6 (by rwa [set_other (by decide)] at h)
        · intro _; rfl
        · intro h; exact g8 (by rwa [set_other (by decide)] at h)
        · intro h; exact g9 (by rwa [set_other (by decide)] at h)
        · intro h; exact g12 (by rwa [set_other (by decide)] at h)
        · intro h; exact g13 (by rwa [set_other (by decide)] at h)
        · intro h; rw [set_other (by decide)]; exact k6 (by rwa [set_other (by decide)] at h)
        · intro h; rw [set_other (by decide)]; exact k7 (by rwa [set_other (by decide)] at h)
        · intro _; rw [set_other (by decide)]; exact d5
        · intro _; rw [set_other (by decide)]; exact d11_10
      · -- 12
        have d12_8 := ready_dep hr (show waitsFor .any _ [12] 8 = true by kernel_rfl)
        obtain rfl := Option.some.inj ho
        obtain ⟨u48, u49, u50, u51, u12, u45, u52, u53, u54, u13, u14, q12, A5, c5, rfl, f2, f3, f4, f5, f54, f10, b10, b11, g6, g7, g8, g9, g12, g13, k6, k7, k11, m11⟩ := hJ
        obtain ⟨hlt, hnl⟩ := ready_not hr
        have e53 := g8 d12_8
        subst e53
        refine ⟨by rfl, ?_⟩
        subst ha0
        simp only [Act.put, List.setIfInBounds_toArray, List.set_cons_zero, List.set_cons_succ]
        have F5 := Lib.hid f5
        clear f5
        go_simp
        have f5 := F5.out
        have hN := new_refl w1
        refine hK.out _ _ hS ⟨u48, u49, u50, u51, u12, u45, u52, (.int .i64 pb.length), u54, (.int .i64 pb.length), u14, q12, A5, c5, ?_, ?_, ?_, ?_, ?_, ?_, ?_, ?_, ?_, ?_, ?_, ?_, ?_, ?_, ?_, ?_, ?_, ?_, ?_⟩
        · (try simp only [Act.put, List.setIfInBounds_toArray, List.set_cons_zero, List.set_cons_succ]) <;> (try rfl)
        · intro h h4; obtain ⟨A, c, e1, e2⟩ := f2 (by rwa [set_other (by decide)] at h) (by rwa [set_other (by decide)] at h4); exact ⟨A, c, e1, e2.new hN⟩
        · intro h h4; obtain ⟨A, e1, e2⟩ := f3 (by rwa [set_other (by decide)] at h) (by rwa [set_other (by decide)] at h4); exact ⟨A, e1, (e2.new hN).mono (Nat.le_refl _) hN.size⟩
        · intro h h4; obtain ⟨A, c, e1, e2⟩ := f4 (by rwa [set_other (by decide)] at h) (by rwa [set_other (by decide)] at h4); exact ⟨A, c, e1, (e2.new hN).mono (Nat.le_refl _) hN.size⟩
        · intro h; obtain ⟨e1, e2⟩ := f5 (by rwa [set_other (by decide)] at h); exact ⟨e1, e2.new hN⟩
        · intro h; rw [set_other (by decide)]; exact f54 (by rwa [set_other (by decide)] at h)
        · intro h; exact f10 (by rwa [set_other (by decide)] at h)
        · intro h h4; exact (b10 (by rwa [set_other (by decide)] at h) (by rwa [set_other (by decide)] at h4)).later hN
        · intro h; exact (b11 (by rwa [set_other (by decide)] at h)).later hN
        · intro h; exact g6 (by rwa [set_other (by decide)] at h)
        · intro h; exact g7 (by rwa [set_other (by decide)] at h)
        · intro _; rfl
        · intro h; exact g9 (by rwa [set_other (by decide)] at h)
        · intro _; rfl
        · intro h; exact g13 (by rwa [set_other (by decide)] at h)
        · intro h; rw [set_other (by decide)]; exact k6 (by rwa [set_other (by decide)] at h)
        · intro h; rw [set_other (by decide)]; exact k7 (by rwa [set_other (by decide)] at h)
        · intro h; rw [set_other (by decide)]; exact k11 (by rwa [set_other (by decide)] at h)
        · intro h; rw [set_other (by decide)]; exact m11 (by rwa [set_other (by decide)] at h)
      · -- 13
        have d13_9 := ready_dep hr (show waitsFor .any _ [13] 9 = true by kernel_rfl)
        obtain rfl := Option.some.inj ho
        obtain ⟨u48, u49, u50, u51, u12, u45, u52, u53, u54, u13, u14, q12, A5, c5, rfl, f2, f3, f4, f5, f54, f10, b10, b11, g6, g7, g8, g9, g12, g13, k6, k7, k11, m11⟩ := hJ
        obtain ⟨hlt, hnl⟩ := ready_not hr
        have e54 := g9 d13_9
        subst e54
        refine ⟨by rfl, ?_⟩
        subst ha0
        simp only [Act.put, List.setIfInBounds_toArray, List.set_cons_zero, List.set_cons_succ]
        have F5 := Lib.hid f5
        clear f5
        go_simp
        have f5 := F5.out
        have hN := new_refl w1
        refine hK.out _ _ hS ⟨u48, u49, u50, u51, u12, u45, u52, u53, (.int .i64 0), u13, (.int .i64 0), q12, A5, c5, ?_, ?_, ?_, ?_, ?_, ?_, ?_, ?_, ?_, ?_, ?_, ?_, ?_, ?_, ?_, ?_, ?_, ?_, ?_⟩
        · (try simp only [Act.put, List.setIfInBounds_toArray, List.set_cons_zero, List.set_cons_succ]) <;> (try rfl)
        · intro h h4; obtain ⟨A, c, e1, e2⟩ := f2 (by rwa [set_other (by decide)] at h) (by rwa [set_other (by decide)] at h4); exact ⟨A, c, e1, e2.new hN⟩
        · intro h h4; obtain ⟨A, e1, e2⟩ := f3 (by rwa [set_other (by decide)] at h) (by rwa [set_other (by decide)] at h4); exact ⟨A, e1, (e2.new hN).mono (Nat.le_refl _) hN.size⟩
        · intro h h4; obtain ⟨A, c, e1, e2⟩ := f4 (by rwa [set_other (by decide)] at h) (by rwa [set_other (by decide)] at h4); exact ⟨A, c, e1, (e2.new hN).mono (Nat.le_refl _) hN.size⟩
        · intro h; obtain ⟨e1, e2⟩ := f5 (by rwa [set_other (by decide)] at h); exact ⟨e1, e2.new hN⟩
        · intro h; rw [set_other (by decide)]; exact f54 (by rwa [set_other (by decide)] at h)
        · intro h; exact f10 (by rwa [set_other (by decide)] at h)
        · intro h h4; exact (b10 (by rwa [set_other (by decide)] at h) (by rwa [set_other (by decide)] at h4)).later hN
        · intro h; exact (b11 (by rwa [set_other (by decide)] at h)).later hN
        · intro h; exact g6 (by rwa [set_other (by decide)] at h)
        · intro h; exact g7 (by rwa [set_other (by decide)] at h)
        · intro h; exact g8 (by rwa [set_other (by decide)] at h)
        · intro _; rfl
        · intro h; exact g12 (by rwa [set_other (by decide)] at h)
        · intro _; rfl
        · intro h; rw [set_other (by decide)]; exact k6 (by rwa [set_other (by decide)] at h)
        · intro h; rw [set_other (by decide)]; exact k7 (by rwa [set_other (by decide)] at h)
        · intro h; rw [set_other (by decide)]; exact k11 (by rwa [set_other (by decide)] at h)
        · intro h; rw [set_other (by decide)]; exact m11 (by rwa [set_other (by decide)] at h)
    case goon7 =>
      intro a wA hS hJ
      obtain ⟨u48, u49, u50, u51, u12, u45, u52, u53, u54, u13, u14, q12, A6, c6, rfl, -, -, -, f5, -, f10, -, b11, g6, g7, g8, g9, g12, g13, -, -, -, -⟩ := hJ
      obtain ⟨rfl, o6⟩ := f5 rfl
      obtain ⟨rfl, l12⟩ := f10 rfl
      have hb12 := b11 rfl
      obtain rfl := g6 rfl
      obtain rfl := g7 rfl
      obtain rfl := g8 rfl
      obtain rfl := g9 rfl
      obtain rfl := g12 rfl
      obtain rfl := g13 rfl
      subst ha0
      simp only [Act.put, List.setIfInBounds_toArray, List.set_cons_zero, List.set_cons_succ]
      refine wpAnyL_end (by kernel_rfl) ?_
      have hNA := hS
      have HG := Lib.hid (OwnT.rdT o6 (Nat.le_refl _))
      have HC := Lib.hid hb12
      have HN := Lib.hid (HN.out.trans hNA)
      have H7 := Lib.hid (H7.out.later hNA)
      have H8 := Lib.hid (H8.out.later hNA)
      have H9 := Lib.hid (H9.out.later hNA)
      have TA := Lib.hid ((TA.out.new hNA).mono' hNA.size)
      have TB := Lib.hid ((TB.out.new hNA).mono' hNA.size)
      have TC := Lib.hid ((TC.out.new hNA).mono' hNA.size)
      clear f5 f10 b11 g6 g7 g8 g9 g12 g13 hS hNA hb12 l12 o6 HS HRD HP
      -- behind region 7
      obtain ⟨k0, k1, k2, -⟩ := H7.out.of3
      go_wp2_with fail
      have hcv := rn_Patch _ _ _ _ wa.1 ha.1 A1 c1 ta wa.1 ha.1 A1 c1 ta wA TA.out TA.out (Nat.le_refl _)
      have hnl := canvB_same wa.1 ha.1 ta
      rw [show patchI wa.1 ha.1 ta wa.1 ha.1 ta = (canvB wa.1 ha.1 (ZP ta) ta, 0) by rw [patchI, if_pos HRA.out, if_pos HRA.out, if_pos ⟨rfl, rfl⟩]] at hcv
      generalize canvB wa.1 ha.1 (ZP ta) ta = nb at *
      refine hcv.mono ?_
      clear hcv k0 k1 k2
      rintro e wB ⟨AB, cB, rfl, hN, hO⟩
      dsimp only
      have HN := Lib.hid (HN.out.trans hN)
      have H7 := Lib.hid (H7.out.later hN)
      have H8 := Lib.hid (H8.out.later hN)
      have H9 := Lib.hid (H9.out.later hN)
      have HC := Lib.hid (HC.out.later hN)
      have TA := Lib.hid ((TA.out.new hN).mono' hN.size)
      have TB := Lib.hid ((TB.out.new hN).mono' hN.size)
      have TC := Lib.hid ((TC.out.new hN).mono' hN.size)
      have HG := Lib.hid ((HG.out.new hN).mono' hN.size)
      clear hN hO
      have hw2 : IntKind.i64.wrap (2 + (ta.length : Int)) = 2 + (ta.length : Int) := by have := HA16.out; rw [IntKind.wrap_i64]; omega
      have hq1 : ((nb.length : Int) != 2 + (ta.length : Int)) = false := by simp; omega
      have HNL := Lib.hid hnl
      clear hnl
      obtain ⟨k0, k1, k2, -⟩ := H7.out.of3
      obtain ⟨m0, m1, m2, -⟩ := H8.out.of3
      obtain ⟨g0, g1, g2, -⟩ := HC.out.of3
      go_wp2_with fail
      refine (cv_Alike _ _ _ _ _ _ _ _ tb _ _ _ _ tb _ HG.out TB.out).mono ?_
      rw [show alike wa.1 ha.1 tb wa.1 ha.1 tb = true by simp [alike]]
      rintro e wC ⟨rfl, hN⟩
      have HN := Lib.hid (HN.out.trans hN)
      have H7 := Lib.hid (H7.out.later hN)
      have H8 := Lib.hid (H8.out.later hN)
      have H9 := Lib.hid (H9.out.later hN)
      have HC := Lib.hid (HC.out.later hN)
      have TA := Lib.hid ((TA.out.new hN).mono' hN.size)
      have TB := Lib.hid ((TB.out.new hN).mono' hN.size)
      have TC := Lib.hid ((TC.out.new hN).mono' hN.size)
      have HG := Lib.hid ((HG.out.new hN).mono' hN.size)
      clear hN k0 k1 k2 m0 m1 m2 g0 g1 g2
      obtain ⟨k0, k1, k2, -⟩ := H7.out.of3
      obtain ⟨m0, m1, m2, -⟩ := H8.out.of3
      obtain ⟨g0, g1, g2, -⟩ := HC.out.of3
      go_wp2_with fail
      -- Patch(b, got)
      have hcv := rn_Patch _ _ _ _ wa.1 ha.1 A3 c3 tb wa.1 ha.1 A6 c6 tb wC TB.out HG.out (Nat.le_refl _)
      have hnl := canvB_same wa.1 ha.1 tb
      rw [show patchI wa.1 ha.1 tb wa.1 ha.1 tb = (canvB wa.1 ha.1 (ZP tb) tb, 0) by rw [patchI, if_pos HRB.out, if_pos HRB.out, if_pos ⟨rfl, rfl⟩]] at hcv
      generalize canvB wa.1 ha.1 (ZP tb) tb = nc at *
      refine hcv.mono ?_
      clear hcv k0 k1 k2 m0 m1 m2 g0 g1 g2 hw2 hq1
      rintro e wD ⟨AD, cD, rfl, hN, hO⟩
      dsimp only
      have HN := Lib.hid (HN.out.trans hN)
      have H7 := Lib.hid (H7.out.later hN)
      have H8 := Lib.hid (H8.out.later hN)
      have H9 := Lib.hid (H9.out.later hN)
      have HC := Lib.hid (HC.out.later hN)
      have TA := Lib.hid ((TA.out.new hN).mono' hN.size)
      have TB := Lib.hid ((TB.out.new hN).mono' hN.size)
      have TC := Lib.hid ((TC.out.new hN).mono' hN.size)
      have HG := Lib.hid ((HG.out.new hN).mono' hN.size)
      clear hN hO
      have hq2 : ((nc.length : Int) != (nb.length : Int)) = false := by have := HNL.out; have := HAB.out; simp; omega
      clear hnl
      obtain ⟨m0, m1, m2, -⟩ := H8.out.of3
      obtain ⟨g0, g1, g2, -⟩ := H9.out.of3
      go_wp2_with fail
      -- Patch(b, c)
      have hcv := rn_Patch _ _ _ _ wa.1 ha.1 A3 c3 tb wc.1 hc.1 A5 c5 tc wD TB.out TC.out (Nat.le_refl _)
      have herr := patchI_err (tc := tc) (wc := wc.1) (hc := hc.1) HRA.out HRB.out
      obtain ⟨pq, hpq⟩ : ∃ pq, patchI wa.1 ha.1 tb wc.1 hc.1 tc = pq := ⟨_, rfl⟩
      obtain ⟨pr, hpr⟩ : ∃ pr, patchI wa.1 ha.1 ta wc.1 hc.1 tc = pr := ⟨_, rfl⟩
      rw [hpq] at hcv
      rw [hpq, hpr] at herr
      refine hcv.mono ?_
      clear hcv m0 m1 m2 g0 g1 g2 hq2
      rintro e wE ⟨AE, cE, rfl, hN, hO⟩
      have HQ := Lib.hid (hO.rd (Nat.le_refl _))
      have HN := Lib.hid (HN.out.trans hN)
      have H7 := Lib.hid (H7.out.later hN)
      have H8 := Lib.hid (H8.out.later hN)
      have H9 := Lib.hid (H9.out.later hN)
      have HC := Lib.hid (HC.out.later hN)
      have TA := Lib.hid ((TA.out.new hN).mono' hN.size)
      have TB := Lib.hid ((TB.out.new hN).mono' hN.size)
      have TC := Lib.hid ((TC.out.new hN).mono' hN.size)
      have HG := Lib.hid ((HG.out.new hN).mono' hN.size)
      clear hN hO
      have HERR := Lib.hid herr
      have HPQ := Lib.hid hpq
      have HPR := Lib.hid hpr
      clear herr hpq hpr
      obtain ⟨m0, m1, m2, -⟩ := H7.out.of3
      obtain ⟨g0, g1, g2, -⟩ := H9.out.of3
      go_wp2_with fail
      -- Patch(a, c)
      have hcv := rn_Patch _ _ _ _ wa.1 ha.1 A1 c1 ta wc.1 hc.1 A5 c5 tc wE TA.out TC.out (Nat.le_refl _)
      rw [HPR.out] at hcv
      refine hcv.mono ?_
      clear hcv m0 m1 m2 g0 g1 g2
      rintro e wF ⟨AF, cF, rfl, hN, hO⟩
      have HR := Lib.hid (hO.rd (Nat.le_refl _))
      have HQ := Lib.hid ((HQ.out.new hN).mono (Nat.le_refl _) hN.size)
      have HN := Lib.hid (HN.out.trans hN)
      have H7 := Lib.hid (H7.out.later hN)
      have H8 := Lib.hid (H8.out.later hN)
      have H9 := Lib.hid (H9.out.later hN)
      have HC := Lib.hid (HC.out.later hN)
      have TA := Lib.hid ((TA.out.new hN).mono' hN.size)
      have TB := Lib.hid ((TB.out.new hN).mono' hN.size)
      have TC := Lib.hid ((TC.out.new hN).mono' hN.size)
      have HG := Lib.hid ((HG.out.new hN).mono' hN.size)
      clear hN hO
      by_cases hpe : pr.2 = 0
      rotate_left
      · have hq0 : ¬ pq.2 = 0 := by rw [HERR.out]; exact hpe
        have h1 : pq.1 = [] := by have := HPQ.out; subst this; exact patchI_no hq0
        have h2 : pr.1 = [] := by have := HPR.out; subst this; exact patchI_no hpe
        have hn1 : (pq.2 != 0) = true := by simp [hq0]
        have he : pr.2 = pq.2 := HERR.out.symm
        rw [h1, h2]
        clear hq0 hpe h1 h2 HQ HR
        obtain ⟨x, hx⟩ : ∃ x, pq.2 = x := ⟨_, rfl⟩
        rw [he, hx]
        rw [hx] at hn1
        clear he hx
        go_wp2_with fail
        go_ret
        exact ⟨rfl, HN.out⟩
      have hq0 : pq.2 = 0 := by rw [HERR.out]; exact hpe
      have h1 := HPQ.out
      have h2 := HPR.out
      obtain ⟨e1, e2, _, hrc, hpt⟩ := patchI_ok (show (patchI wa.1 ha.1 tb wc.1 hc.1 tc).2 = 0 by rw [h1]; exact hq0)
      obtain ⟨_, _, _, _, hpt2⟩ := patchI_ok (show (patchI wa.1 ha.1 ta wc.1 hc.1 tc).2 = 0 by rw [h2]; exact hpe)
      obtain rfl : wa = wc := Subtype.ext e1
      obtain rfl : ha = hc := Subtype.ext e2
      rw [hpt] at h1
      rw [hpt2] at h2
      subst h1 h2
      have hrd1 := readPa_canvB (ta := tb) hrc HC64.out []
      have hrd2 := readPa_canvB (ta := ta) hrc HC64.out []
      rw [List.append_nil] at hrd1 hrd2
      have hbl1 := canvB_length wa.1 ha.1 (ZP tb) tc
      have hbl2 := canvB_length wa.1 ha.1 (ZP ta) tc
      have hbm1 := bytesC_le (ZP tb) tc [] HC64.out
      have hbm2 := bytesC_le (ZP ta) tc [] HC64.out
      obtain ⟨hlc16, _, _⟩ := right_len _ _ _ hrc
      obtain ⟨qb, hqb⟩ : ∃ qb, canvB wa.1 ha.1 (ZP tb) tc = qb := ⟨_, rfl⟩
      obtain ⟨rb, hrb⟩ : ∃ rb, canvB wa.1 ha.1 (ZP ta) tc = rb := ⟨_, rfl⟩
      rw [hqb] at hrd1 hbl1
      rw [hrb] at hrd2 hbl2
      have HQL := Lib.hid (show qb.length ≤ 6000 by omega)
      have HRL := Lib.hid (show rb.length ≤ 6000 by omega)
      have HRD1 := Lib.hid hrd1
      have HRD2 := Lib.hid hrd2
      rw [hqb] at HQ
      rw [hrb] at HR
      simp only [hqb, hrb]
      clear hq0 hpe hpt hpt2 hrc e1 e2 hrd1 hrd2 hbl1 hbl2 hbm1 hbm2 hlc16 hqb hrb HPQ HPR HERR
      dsimp only at HQ HR ⊢
      obtain ⟨g0, g1, g2, -⟩ := HC.out.of3
      go_wp2_with fail
      -- one
      have hap := rn_Apply _ _ AE cE qb _ _ wa.1 ha.1 A6 c6 tb wF HQ.out (Nat.le_refl _) HG.out (Nat.le_refl _) (by have := HQL.out; omega)
      rw [show applyI wa.1 ha.1 tb qb = (some (wa.1, ha.1, tc, qb.length), 200) by rw [applyI, if_pos HRB.out, HRD1.out]] at hap
      refine hap.mono ?_
      clear hap g0 g1 g2
      rintro e wG ⟨hN0, ⟨wd, hg, l, n, AG, cG, h1, rfl, hO⟩ | ⟨h1, _⟩⟩
      rotate_left
      · cases h1
      injection h1 with h1
      injection h1 with e1 h1
      injection h1 with e2 h1
      injection h1 with e3 e4
      subst e1 e2 e3 e4
      have hN := hN0.alloc (.cells (cC wa.1 ha.1 AG tc.length cG) 43)
      have HO1 := Lib.hid ((OwnT.rdT hO (Nat.le_refl _)).new (new_alloc wG (.cells (cC wa.1 ha.1 AG tc.length cG) 43)))
      have HO2 := Lib.hid (BoxA.new wG 43 (cC wa.1 ha.1 AG tc.length cG))
      have HR := Lib.hid ((HR.out.new hN).mono (Nat.le_refl _) hN.size)
      have HN := Lib.hid (HN.out.trans hN)
      have H7 := Lib.hid (H7.out.later hN)
      have H8 := Lib.hid (H8.out.later hN)
      have H9 := Lib.hid (H9.out.later hN)
      have HC := Lib.hid (HC.out.later hN)
      have TA := Lib.hid ((TA.out.new hN).mono' hN.size)
      have TB := Lib.hid ((TB.out.new hN).mono' hN.size)
      have TC := Lib.hid ((TC.out.new hN).mono' hN.size)
      have HG := Lib.hid ((HG.out.new hN).mono' hN.size)
      clear hN hN0 hO
      obtain ⟨g0, g1, g2, -⟩ := H7.out.of3
      go_wp2_with fail
      -- two
      have hap := rn_Apply _ _ AF cF rb _ _ wa.1 ha.1 A1 c1 ta _ HR.out (Nat.le_refl _) TA.out (Nat.le_refl _) (by have := HRL.out; omega)
      rw [show applyI wa.1 ha.1 ta rb = (some (wa.1, ha.1, tc, rb.length), 200) by rw [applyI, if_pos HRA.out, HRD2.out]] at hap
      refine hap.mono ?_
      clear hap g0 g1 g2
      rintro e wH ⟨hN0, ⟨wd, hg, l, n, AH, cH, h1, rfl, hO⟩ | ⟨h1, _⟩⟩
      rotate_left
      · cases h1
      injection h1 with h1
      injection h1 with e1 h1
      injection h1 with e2 h1
      injection h1 with e3 e4
      subst e1 e2 e3 e4
      have hN := hN0.alloc (.cells (cC wa.1 ha.1 AH tc.length cH) 43)
      have HP1 := Lib.hid ((OwnT.rdT hO (Nat.le_refl _)).new (new_alloc wH (.cells (cC wa.1 ha.1 AH tc.length cH) 43)))
      have HP2 := Lib.hid (BoxA.new wH 43 (cC wa.1 ha.1 AH tc.length cH))
      have HO1 := Lib.hid (HO1.out.new hN)
      have HO2 := Lib.hid (HO2.out.later hN)
      have HN := Lib.hid (HN.out.trans hN)
      have H7 := Lib.hid (H7.out.later hN)
      have H8 := Lib.hid (H8.out.later hN)
      have H9 := Lib.hid (H9.out.later hN)
      have HC := Lib.hid (HC.out.later hN)
      have TA := Lib.hid ((TA.out.new hN).mono' hN.size)
      have TB := Lib.hid ((TB.out.new hN).mono' hN.size)
      have TC := Lib.hid ((TC.out.new hN).mono' hN.size)
      have HG := Lib.hid ((HG.out.new hN).mono' hN.size)
      clear hN hN0 hO
      obtain ⟨k0, k1, k2, -⟩ := HO2.out.of3
      obtain ⟨m0, m1, m2, -⟩ := HP2.out.of3
      go_wp2_with fail
      refine (cv_Alike _ _ _ _ _ _ _ _ tc _ _ _ _ tc _ HO1.out HP1.out).mono ?_
      rw [show alike wa.1 ha.1 tc wa.1 ha.1 tc = true by simp [alike]]
      rintro e wI ⟨rfl, hN⟩
      have HO1 := Lib.hid (HO1.out.new hN)
      have HO2 := Lib.hid (HO2.out.later hN)
      have HN := Lib.hid (HN.out.trans hN)
      have H7 := Lib.hid (H7.out.later hN)
      have H8 := Lib.hid (H8.out.later hN)
      have H9 := Lib.hid (H9.out.later hN)
      have HC := Lib.hid (HC.out.later hN)
      have TA := Lib.hid ((TA.out.new hN).mono' hN.size)
      have TB := Lib.hid ((TB.out.new hN).mono' hN.size)
      have TC := Lib.hid ((TC.out.new hN).mono' hN.size)
      have HG := Lib.hid ((HG.out.new hN).mono' hN.size)
      clear hN k0 k1 k2 m0 m1 m2
      obtain ⟨k0, k1, k2, -⟩ := HO2.out.of3
      obtain ⟨m0, m1, m2, -⟩ := H9.out.of3
      go_wp2_with fail
      refine (cv_Alike _ _ _ _ _ _ _ _ tc _ _ _ _ tc _ HO1.out TC.out).mono ?_
      rw [show alike wa.1 ha.1 tc wa.1 ha.1 tc = true by simp [alike]]
      rintro e wJ ⟨rfl, hN⟩
      have HN := Lib.hid (HN.out.trans hN)
      clear hN k0 k1 k2 m0 m1 m2
      go_wp2
      go_ret
      exact ⟨rfl, HN.out⟩
  intro i hi listed a w1 hr hS hJ K hK o ho
  simp only [List.mem_cons, List.not_mem_nil, or_false] at hi
  rcases hi with rfl | rfl | rfl | rfl | rfl | rfl
  · -- 1
    obtain rfl := Option.some.inj ho
    obtain ⟨u29, u31, u33, u7, u8, u9, q7, q8, q9, rfl, f1, f3, f5, f6, f7, f8, n67, n68, n78⟩ := hJ
    obtain ⟨hlt, hnl⟩ := ready_not hr
    refine ⟨by rfl, ?_⟩
    subst ha0
    simp only [Act.put, List.setIfInBounds_toArray, List.set_cons_zero, List.set_cons_succ]
    go_simp
    refine (law_own _ _ _ _ _ _ la ta _ ((HLA.out.new hS)) HTA.out).mono ?_
    rintro e w2 ⟨A', c', rfl, hN, hO⟩
    refine hK.out _ _ (hS.trans hN) ⟨_, u31, u33, u7, u8, u9, q7, q8, q9, rfl, ?_, ?_, ?_, ?_, ?_, ?_, ?_, ?_, ?_⟩
    · intro _; exact ⟨A', c', rfl, hO.mono hS.size⟩
    · intro h; obtain ⟨A, c, e1, e2⟩ := f3 (by rwa [set_other (by decide)] at h); exact ⟨A, c, e1, e2.new hN⟩
    · intro h; obtain ⟨A, c, e1, e2⟩ := f5 (by rwa [set_other (by decide)] at h); exact ⟨A, c, e1, e2.new hN⟩
    · intro h; obtain ⟨e1, e2, e3⟩ := f6 (by rwa [set_other (by decide)] at h); exact ⟨e1, e2.later hN, e3⟩
    · intro h; obtain ⟨e1, e2, e3⟩ := f7 (by rwa [set_other (by decide)] at h); exact ⟨e1, e2.later hN, e3⟩
    · intro h; obtain ⟨e1, e2, e3⟩ := f8 (by rwa [set_other (by decide)] at h); exact ⟨e1, e2.later hN, e3⟩
    · intro h h'; exact n67 (by rwa [set_other (by decide)] at h) (by rwa [set_other (by decide)] at h')
    · intro h h'; exact n68 (by rwa [set_other (by decide)] at h) (by rwa [set_other (by decide)] at h')
    · intro h h'; exact n78 (by rwa [set_other (by decide)] at h) (by rwa [set_other (by decide)] at h')
  · -- 3
    obtain rfl := Option.some.inj ho
    obtain ⟨u29, u31, u33, u7, u8, u9, q7, q8, q9, rfl, f1, f3, f5, f6, f7, f8, n67, n68, n78⟩ := hJ
    obtain ⟨hlt, hnl⟩ := ready_not hr
    refine ⟨by rfl, ?_⟩
    subst ha0
    simp only [Act.put, List.setIfInBounds_toArray, List.set_cons_zero, List.set_cons_succ]
    go_simp
    refine (law_own _ _ _ _ _ _ lb tb _ ((HLB.out.new hS)) HTB.out).mono ?_
    rintro e w2 ⟨A', c', rfl, hN, hO⟩
    refine hK.out _ _ (hS.trans hN) ⟨u29, _, u33, u7, u8, u9, q7, q8, q9, rfl, ?_, ?_, ?_, ?_, ?_, ?_, ?_, ?_, ?_⟩
    · intro h; obtain ⟨A, c, e1, e2⟩ := f1 (by rwa [set_other (by decide)] at h); exact ⟨A, c, e1, e2.new hN⟩
    · intro _; exact ⟨A', c', rfl, hO.mono hS.size⟩
    · intro h; obtain ⟨A, c, e1, e2⟩ := f5 (by rwa [set_other (by decide)] at h); exact ⟨A, c, e1, e2.new hN⟩
    · intro h; obtain ⟨e1, e2, e3⟩ := f6 (by rwa [set_other (by decide)] at h); exact ⟨e1, e2.later hN, e3⟩
    · intro h; obtain ⟨e1, e2, e3⟩ := f7 (by rwa [set_other (by decide)] at h); exact ⟨e1, e2.later hN, e3⟩
    · intro h; obtain ⟨e1, e2, e3⟩ := f8 (by rwa [set_other (by decide)] at h); exact ⟨e1, e2.later hN, e3⟩
    · intro h h'; exact n67 (by rwa [set_other (by decide)] at h) (by rwa [set_other (by decide)] at h')
    · intro h h'; exact n68 (by rwa [set_other (by decide)] at h) (by rwa [set_other (by decide)] at h')
    · intro h h'; exact n78 (by rwa [set_other (by decide)] at h) (by rwa [set_other (by decide)] at h')
  · -- 5
    obtain rfl := Option.some.inj ho
    obtain ⟨u29, u31, u33, u7, u8, u9, q7, q8, q9, rfl, f1, f3, f5, f6, f7, f8, n67, n68, n78⟩ := hJ
    obtain ⟨hlt, hnl⟩ := ready_not hr
    refine ⟨by rfl, ?_⟩
    subst ha0
    simp only [Act.put, List.setIfInBounds_toArray, List.set_cons_zero, List.set_cons_succ]
    go_simp
    refine (law_own _ _ _ _ _ _ lc tc _ ((HLC.out.new hS)) HTC.out).mono ?_
    rintro e w2 ⟨A', c', rfl, hN, hO⟩
    refine hK.out _ _ (hS.trans hN) ⟨u29, u31, _, u7, u8, u9, q7, q8, q9, rfl, ?_, ?_, ?_, ?_, ?_, ?_, ?_, ?_, ?_⟩
    · intro h; obtain ⟨A, c, e1, e2⟩ := f1 (by rwa [set_other (by decide)] at h); exact ⟨A, c, e1, e2.new hN⟩
    · intro h; obtain ⟨A, c, e1, e2⟩ := f3 (by rwa [set_other (by decide)] at h); exact ⟨A, c, e1, e2.new hN⟩
    · intro _; exact ⟨A', c', rfl, hO.mono hS.size⟩
    · intro h; obtain ⟨e1, e2, e3⟩ := f6 (by rwa [set_other (by decide)] at h); exact ⟨e1, e2.later hN, e3⟩
    · intro h; obtain ⟨e1, e2, e3⟩ := f7 (by rwa [set_other (by decide)] at h); exact ⟨e1, e2.later hN, e3⟩
    · intro h; obtain ⟨e1, e2, e3⟩ := f8 (by rwa [set_other (by decide)] at h); exact ⟨e1, e2.later hN, e3⟩
    · intro h h'; exact n67 (by rwa [set_other (by decide)] at h) (by rwa [set_other (by decide)] at h')
    · intro h h'; exact n68 (by rwa [set_other (by decide)] at h) (by rwa [set_other (by decide)] at h')
    · intro h h'; exact n78 (by rwa [set_other (by decide)] at h) (by rwa [set_other (by decide)] at h')
  · -- 6
    obtain rfl := Option.some.inj ho
    obtain ⟨u29, u31, u33, u7, u8, u9, q7, q8, q9, rfl, f1, f3, f5, f6, f7, f8, n67, n68, n78⟩ := hJ
    obtain ⟨hlt, hnl⟩ := ready_not hr
    refine ⟨by rfl, ?_⟩
    subst ha0
    simp only [Act.put, List.setIfInBounds_toArray, List.set_cons_zero, List.set_cons_succ]
    go_simp
    have hN := new_alloc w1 (.cells zC 43)
    refine hK.out _ _ (hS.trans hN) ⟨u29, u31, u33, _, u8, u9, w1.heap.size, q8, q9, rfl, ?_, ?_, ?_, ?_, ?_, ?_, ?_, ?_, ?_⟩
    · intro h; obtain ⟨A, c, e1, e2⟩ := f1 (by rwa [set_other (by decide)] at h); exact ⟨A, c, e1, e2.new hN⟩
    · intro h; obtain ⟨A, c, e1, e2⟩ := f3 (by rwa [set_other (by decide)] at h); exact ⟨A, c, e1, e2.new hN⟩
    · intro h; obtain ⟨A, c, e1, e2⟩ := f5 (by rwa [set_other (by decide)] at h); exact ⟨A, c, e1, e2.new hN⟩
    · intro _; exact ⟨rfl, BoxA.new _ _ _, hS.size⟩
    · intro h; obtain ⟨e1, e2, e3⟩ := f7 (by rwa [set_other (by decide)] at h); exact ⟨e1, e2.later hN, e3⟩
    · intro h; obtain ⟨e1, e2, e3⟩ := f8 (by rwa [set_other (by decide)] at h); exact ⟨e1, e2.later hN, e3⟩
    · intro _ h; obtain ⟨e1, e2, e3⟩ := f7 (by rwa [set_other (by decide)] at h); exact (Nat.ne_of_lt e2.lt).symm
    · intro _ h; obtain ⟨e1, e2, e3⟩ := f8 (by rwa [set_other (by decide)] at h); exact (Nat.ne_of_lt e2.lt).symm
    · intro h h'; exact n78 (by rwa [set_other (by decide)] at h) (by rwa [set_other (by decide)] at h')
  · -- 7
    obtain rfl := Option.some.inj ho
    obtain ⟨u29, u31, u33, u7, u8, u9, q7, q8, q9, rfl, f1, f3, f5, f6, f7, f8, n67, n68, n78⟩ := hJ
    obtain ⟨hlt, hnl⟩ := ready_not hr
    refine ⟨by rfl, ?_⟩
    subst ha0
    simp only [Act.put, List.setIfInBounds_toArray, List.set_cons_zero, List.set_cons_succ]
    go_simp
    have hN := new_alloc w1 (.cells zC 43)
    refine hK.out _ _ (hS.trans hN) ⟨u29, u31, u33, u7, _, u9, q7, w1.heap.size, q9, rfl, ?_, ?_, ?_, ?_, ?_, ?_, ?_, ?_, ?_⟩
    · intro h; obtain ⟨A, c, e1, e2⟩ := f1 (by rwa [set_other (by decide)] at h); exact ⟨A, c, e1, e2.new hN⟩
    · intro h; obtain ⟨A, c, e1, e2⟩ := f3 (by rwa [set_other (by decide)] at h); exact ⟨A, c, e1, e2.new hN⟩
    · intro h; obtain ⟨A, c, e1, e2⟩ := f5 (by rwa [set_other (by decide)] at h); exact ⟨A, c, e1, e2.new hN⟩
    · intro h; obtain ⟨e1, e2, e3⟩ := f6 (by rwa [set_other (by decide)] at h); exact ⟨e1, e2.later hN, e3⟩
    · intro _; exact ⟨rfl, BoxA.new _ _ _, hS.size⟩
    · intro h; obtain ⟨e1, e2, e3⟩ := f8 (by rwa [set_other (by decide)] at h); exact ⟨e1, e2.later hN, e3⟩
    · intro h _; obtain ⟨e1, e2, e3⟩ := f6 (by rwa [set_other (by decide)] at h); exact Nat.ne_of_lt e2.lt
    · intro h h'; exact n68 (by rwa [set_other (by decide)] at h) (by rwa [set_other (by decide)] at h')
    · intro _ h; obtain ⟨e1, e2, e3⟩ := f8 (by rwa [set_other (by decide)] at h); exact (Nat.ne_of_lt e2.lt).symm
  · -- 8
    obtain rfl := Option.some.inj ho
    obtain ⟨u29, u31, u33, u7, u8, u9, q7, q8, q9, rfl, f1, f3, f5, f6, f7, f8, n67, n68, n78⟩ := hJ
    obtain ⟨hlt, hnl⟩ := ready_not hr
    refine ⟨by rfl, ?_⟩
    subst ha0
    simp only [Act.put, List.setIfInBounds_toArray, List.set_cons_zero, List.set_cons_succ]
    go_simp
    have hN := new_alloc w1 (.cells zC 43)
    refine hK.out _ _ (hS.trans hN) ⟨u29, u31, u33, u7, u8, _, q7, q8, w1.heap.size, rfl, ?_, ?_, ?_, ?_, ?_, ?_, ?_, ?_, ?_⟩
    · intro h; obtain ⟨A, c, e1, e2⟩ := f1 (by rwa [set_other (by decide)] at h); exact ⟨A, c, e1, e2.new hN⟩
    · intro h; obtain ⟨A, c, e1, e2⟩ := f3 (by rwa [set_other (by decide)] at h); exact ⟨A, c, e1, e2.new hN⟩
    · intro h; obtain ⟨A, c, e1, e2⟩ := f5 (by rwa [set_other (by decide)] at h); exact ⟨A, c, e1, e2.new hN⟩
    · intro h; obtain ⟨e1, e2, e3⟩ := f6 (by rwa [set_other (by decide)] at h); exact ⟨e1, e2.later hN, e3⟩
    · intro h; obtain ⟨e1, e2, e3⟩ := f7 (by rwa [set_other (by decide)] at h); exact ⟨e1, e2.later hN, e3⟩
    · intro _; exact ⟨rfl, BoxA.new _ _ _, hS.size⟩
    · intro h h'; exact n67 (by rwa [set_other (by decide)] at h) (by rwa [set_other (by decide)] at h')
    · intro h _; obtain ⟨e1, e2, e3⟩ := f6 (by rwa [set_other (by decide)] at h); exact Nat.ne_of_lt e2.lt
    · intro h _; obtain ⟨e1, e2, e3⟩ := f7 (by rwa [set_other (by decide)] at h); exact Nat.ne_of_lt e2.lt
end Go.Proofs.Ythihffglkheleaa
