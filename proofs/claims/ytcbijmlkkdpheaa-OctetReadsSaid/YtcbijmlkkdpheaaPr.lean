/- The law OctetReads: what readers read, step by step. -/
import Derived.Test.YtcbijmlkkdpheaaPq
import Derived.Test.YtcbijmlkkdpheaaBd
set_option linter.unusedVariables false
set_option linter.unusedSimpArgs false
namespace Go.Proofs.Ytcbijmlkkdpheaa
open Go.RowKit

/-- A step: kind and number. -/
structure Step where
  kind : I64
  n : I64
def encS (x : Step) : List Value := [ei x.kind, ei x.n]
theorem RdC.step {lo hi : Nat} {w : World} {A : Option Addr} {c : Nat} {xs : List Step} (h : RdC 2 encS lo hi w (.slice A xs.length c) xs) (k : Nat) (hk : k < xs.length) :
    ∃ b off, A = some ⟨b, off, none⟩ ∧ w.cell? ⟨b, off + k * 2, none⟩ = some (ei xs[k].kind) ∧ w.cell? ⟨b, off + k * 2 + 1, none⟩ = some (ei xs[k].n) := by
  obtain ⟨b, off, hA, _, _, hc⟩ := h.at_ k hk
  exact ⟨b, off, hA, hc 0 (by omega), hc 1 (by omega)⟩
theorem steps_of_trod {H : Type} {henc : TypeId × Value → H} {W : World} {base : Nat} {v : Value} {d : DataW H} {p : List MemPlace} (hv : Value.okWide Try.prog W .any base 66 v)
    (h : DataW.Trod henc Try.prog W 0 (fun _ => true) true 66 v d p) : ∃ xs : List Step, RdC 2 encS 0 W.heap.size W v xs := by
  refine rdc_of_trod (by omega) Try.underlying66 (by kernel_rfl) ?_ hv h
  intro n cs y hy
  obtain ⟨y0, y1, m, _, hl, e0, e1⟩ := Go.ChangeShapes.trod_struct2 Try.underlying70 hy
  have hc : Try.prog.cellsOf 70 = 2 := by kernel_rfl
  have hci : Try.prog.cellsOf 3 = 1 := by kernel_rfl
  rw [hc] at hl
  simp only [hci] at e0 e1
  match cs, hl with
  | [a, b], _ =>
    obtain ⟨n0, h0, _, w0⟩ := DataW.trod_int Try.underlying3 e0
    obtain ⟨n1, h1, _, w1⟩ := DataW.trod_int Try.underlying3 e1
    obtain ⟨x0, f0⟩ := wf_int n0 w0
    obtain ⟨x1, f1⟩ := wf_int n1 w1
    simp at h0 h1
    exact ⟨⟨x0, x1⟩, by simp only [encS]; rw [f0, f1, h0, h1]⟩

theorem left_num (nv er : Int) (left : List U8) : (readI 0 (numR nv left) left er).2.1.length ≤ left.length := by
  by_cases he : er = 0
  · by_cases hw : isWB nv = true
    · by_cases hl : nv ≤ left.length
      · simp [readI, numR, he, hw, hl]
      · simp [readI, numR, he, hw, hl]
    · simp [readI, numR, he, hw]
  · simp [readI, he]
theorem wrap_u8_bound (n : Int) : 0 ≤ n % 256 ∧ n % 256 ≤ 255 := by omega
theorem left_bytes (nv er : Int) (left : List U8) : (readI [] (bytesR nv left) left er).2.1.length ≤ left.length ∧ (readI [] (bytesR nv left) left er).1.length ≤ left.length := by
  by_cases he : er = 0
  · by_cases hw : 0 ≤ nv
    · by_cases hl : nv ≤ left.length
      · simp [readI, bytesR, he, hw, hl]
      · simp [readI, bytesR, he, hw, hl]
    · simp [readI, bytesR, he, hw]
  · simp [readI, he]
theorem left_part (er : Int) (left : List U8) : (readI [] (partR left) left er).2.1.length ≤ left.length ∧ (readI [] (partR left) left er).1.length ≤ left.length := by
  by_cases he : er = 0
  · by_cases hw : 2 ≤ left.length
    · by_cases hl : 2 + numI (left.take 2) ≤ left.length
      · simp [readI, partR, he, hw, hl]; omega
      · simp [readI, partR, he, hw, hl]
    · simp [readI, partR, he, hw]
  · simp [readI, he]
theorem ite_minP (n m : Nat) (hm : m = min n 65537) : (if (65537 : Int) < (n : Int) then (65537 : Int) else (n : Int)) = (m : Int) := by
  subst hm
  split <;> omega

set_option maxRecDepth 100000 in
set_option maxHeartbeats 8000000 in
theorem law_Reads (vx vl vp : Value) (xs : List U8) (ls : List Step) (qs : List U8) (w : World) (hx : Rd e8 0 w.heap.size w vx xs) (hl : RdC 2 encS 0 w.heap.size w vl ls) (hp : Rd e8 0 w.heap.size w vp qs) :
    Calls Try.prog 7 #[vx, vl, vp] w fun e w' => e = .returned (.bool true) ∧ New w w' := by
  obtain ⟨A, c, rfl, h1, h2⟩ := hx.form
  obtain ⟨B, d, rfl, h3, h4⟩ := hl.form
  obtain ⟨C, f, rfl, h5, h6⟩ := hp.form
  obtain ⟨ps, hps, hpl, hRp⟩ := hp.cut 65537
  obtain ⟨ys, hy⟩ : ∃ ys, ys = xs.take 60 := ⟨_, rfl⟩
  have HY60 := Lib.hid (show ys.length ≤ 60 by rw [hy, List.length_take]; omega)
  have hfew := fun W (hn : New w W) => ref_few 0 w.heap.size _ xs W (hx.new hn)
  rw [← hy] at hfew
  have HF := Lib.hid hfew
  have HL := Lib.hid hl
  have HPo := Lib.hid hRp
  have HPL := Lib.hid hpl
  have HP2 := Lib.hid (show ps.length ≤ 65537 by omega)
  have hl9 : ls.length ≤ 9223372036854775807 := by omega
  have hpc : ps.length ≤ f := by omega
  clear hx hl hp hps hpl hRp hy hfew
  go_enter Try.func7, Try.ntmps7
  go_wp2_with fail
  refine (law_wakes w).mono ?_
  rintro e w1 ⟨rfl, hN⟩
  have HN1 := Lib.hid hN
  clear hN
  go_wp2_with ((with_reducible change wpList _ _ _ (⟨some 26, _, _, _, _, _⟩ :: _) _ _); refine wpl_min rfl (.tmp 25) 65537 rfl rfl HPL.out ?_)
  refine (HF.out w1 HN1.out).mono ?_
  rintro e w2 ⟨A2, c2, rfl, hN, hO⟩
  have HN2 := Lib.hid (HN1.out.trans hN)
  have HB := Lib.hid (hO.rd (Nat.le_refl _))
  clear hN hO HN1
  go_wp2_with fail
  refine (oc_Part _ _ _ _ _ _ ys ps _ HB.out (HPo.out.new HN2.out) (by have := HY60.out; omega)).mono ?_
  rintro e w3 ho
  by_cases hlong : 65535 < ps.length
  · obtain ⟨hN, rfl⟩ := ho.bad (x := 3) (by rw [partI, if_pos hlong])
    have HN3 := Lib.hid (HN2.out.trans hN)
    have hlong2 : decide ((65535 : Int) < (ps.length : Int)) = true := by simp; omega
    clear hN ho
    go_wp2
    go_ret
    exact ⟨rfl, HN3.out⟩
  · obtain ⟨bs, hbs⟩ : ∃ bs, bs = ys ++ beI 2 ps.length ++ ps := ⟨_, rfl⟩
    obtain ⟨hN, v, rfl, A3, c3, rfl, hO⟩ := ho.ok (a := bs) (by rw [partI, if_neg hlong, hbs])
    have HN3 := Lib.hid (HN2.out.trans hN)
    have HR3 := Lib.hid (hO.rd (Nat.le_refl _))
    have HBS := Lib.hid hbs
    have hps2 : ps.length ≤ 65535 := by omega
    clear hN ho hO hbs hlong HB
    go_wp2_with fail
    refine (HF.out _ HN3.out).mono ?_
    rintro e w4 ⟨A4, c4, rfl, hN, hO⟩
    have HN4 := Lib.hid (HN3.out.trans hN)
    have HR4 := Lib.hid (HR3.out.new hN)
    have HF4 := Lib.hid (hO.rd (Nat.le_refl _))
    clear hN hO HR3
    go_wp2_with fail
    refine (ref_Part _ _ _ ps _ (HPo.out.new HN4.out) (by omega)).mono ?_
    obtain ⟨us, hus⟩ : ∃ us, us = beI 2 ps.length ++ ps := ⟨_, rfl⟩
    rw [← hus]
    rintro e w5 ⟨A5, c5, rfl, hN, hO⟩
    have HN5 := Lib.hid (HN4.out.trans hN)
    have HR5 := Lib.hid (HR4.out.new hN)
    have HF5 := Lib.hid (HF4.out.new hN)
    have HU5 := Lib.hid (hO.rd (Nat.le_refl _))
    have HUL := Lib.hid (show us.length ≤ 65537 by rw [hus, List.length_append, beI_length]; omega)
    have HE := Lib.hid (show ys ++ us = bs by rw [HBS.out, hus, List.append_assoc])
    clear hN hO HR4 HF4 hus
    go_wp2_with fail
    refine (ref_Behind _ _ _ _ _ _ ys us _ HF5.out HU5.out (by have := HY60.out; have := HUL.out; omega)).mono ?_
    rw [HE.out]
    rintro e w6 ⟨A6, c6, rfl, hN, hO⟩
    have HN6 := Lib.hid (HN5.out.trans hN)
    have HR6 := Lib.hid (HR5.out.new hN)
    have HV6 := Lib.hid (hO.rd (Nat.le_refl _))
    clear hN hO HR5 HF5 HU5 HE HUL
    go_wp2_with fail
    refine (ref_Same _ _ _ _ _ _ bs bs _ HR6.out HV6.out).mono ?_
    rw [decide_eq_true (rfl : bs = bs)]
    rintro e w' ⟨rfl, rfl⟩
    clear HR6 HV6 HBS
    go_wp2_with fail
    refine (HF.out _ HN6.out).mono ?_
    rintro e w7 ⟨A7, c7, rfl, hN, hO⟩
    have HN7 := Lib.hid (HN6.out.trans hN)
    have HO7 := Lib.hid hO
    clear hN hO
    go_wp2_with fail
    refine (oc_Open _ _ _ ys _ (HO7.out.rd (Nat.le_refl _))).mono ?_
    rintro e w8 ⟨hN, ⟨hlong, _⟩ | ⟨_, g, Z, hZ, hg, rfl, hI⟩⟩
    · exact absurd hlong (by have := HY60.out; omega)
    have HN8 := Lib.hid (HN7.out.trans hN)
    have HO8 := Lib.hid (HO7.out.new hN)
    have HI8 := Lib.hid hI
    have HG := Lib.hid (And.intro hZ hg)
    have HS7 := Lib.hid (And.intro HN6.out.size HN7.out.size)
    have HB7 := Lib.hid HO7.out.lt
    clear hN hI hZ hg HO7
    have hys : ys.length ≤ 60 := HY60.out
    go_wp2_with fail
    go_loopw [72, 11] (fun i _ W => ∃ (j : Nat) (zs : List U8), j ≤ ys.length ∧ i = .int .i64 j ∧ Hid (zs.length = ys.length) ∧ Hid (Own e8 5 w6.heap.size W (.slice A7 ys.length c7) zs) ∧ Hid (Chg (fun k => w6.heap.size ≤ k ∧ k < w7.heap.size) w8 W)) (fun i _ _ => ys.length - (intOf i).toNat)
    case atStart => exact ⟨0, ys, Nat.zero_le _, rfl, Lib.hid rfl, HO8, Lib.hid (Chg.refl _ _)⟩
    case round =>
      obtain ⟨j, zs, hj, rfl, HZL, HZO, HZC⟩ := hrel
      by_cases hjl : j < ys.length
      · have hjz : j < zs.length := by rw [HZL.out]; exact hjl
        obtain ⟨gb, rfl, hlo, hgl, hcell, hfr, hst⟩ := HZO.out.store (HZL.out).symm j hjz
        have HST := Lib.hid (hst ⟨(zs[j].1 + 1) % 256, by omega⟩)
        have HLO := Lib.hid hlo
        have HB8 := Lib.hid (HB7.out gb rfl)
        clear hst hlo
        go_wp2
        go_roundw
        case rel => exact ⟨j + 1, zs.set j ⟨(zs[j].1 + 1) % 256, by omega⟩, by omega, by go_num, Lib.hid (by rw [List.length_set]; exact HZL.out), HST, Lib.hid (HZC.out.setCell (p := ⟨gb, j, none⟩) (.inl HB8.out) _)⟩
        case measure => simp [intOf]; omega
      · have HN9 : Hid (New w wr) := Lib.hid (HN8.out.trans' HZC.out (fun k hk => by have := HS7.out; omega))
        have HI9 := Lib.hid (HI8.out.chg' HZC.out (fun k hk => by have := HG.out; omega))
        have HSW := Lib.hid (show w.heap.size ≤ g by have := HG.out; have := HS7.out; omega)
        clear HZL HZO HZC HO8 HI8 HN8
        go_wp2_with fail
        refine (HF.out _ HN9.out).mono ?_
        rintro e w10 ⟨A10, c10, rfl, hN, hO⟩
        have HN10 := Lib.hid (HN9.out.trans hN)
        have HI10 := Lib.hid (HI9.out.new hN)
        have HR10 := Lib.hid (hO.rd (Nat.le_refl _))
        have HGS := Lib.hid (show g < wr.heap.size from HI9.out.lt)
        have HS10 := Lib.hid hN.size
        clear hN hO HI9
        have hb := Box2.new w10 68 (.slice A10 ys.length c10) (.int .i64 0)
        have hNa := new_alloc w10 (.cells #[.slice A10 ys.length c10, .int .i64 0] 68)
        have HBx := Lib.hid hb
        have HNa := Lib.hid hNa
        clear hb hNa
        obtain ⟨lo, hlo⟩ : ∃ lo, lo = wr.heap.size := ⟨_, rfl⟩
        rw [← hlo] at HR10 HGS HS10
        clear hlo
        go_wp2_with fail
        obtain ⟨W11, hW11⟩ : ∃ W11, w10.alloc (.cells #[.slice A10 ys.length c10, .int .i64 0] 68) = W11 := ⟨_, rfl⟩
        rw [hW11] at HBx HNa ⊢
        obtain ⟨x12, hx12⟩ : ∃ x12, x12 = w10.heap.size := ⟨_, rfl⟩
        rw [← hx12] at HBx HR10 HS10 ⊢
        have HX12 := Lib.hid hx12
        have HN11 := Lib.hid (HN10.out.trans HNa.out)
        have HI11 := Lib.hid (HI10.out.new HNa.out)
        have HR11 := Lib.hid (HR10.out.new HNa.out)
        have HWX := Lib.hid (show w.heap.size ≤ x12 by have := HN10.out.size; omega)
        clear hW11 hx12 HN10 HI10 HR10 HNa HN9
        go_loopw [87] (fun i W => ∃ (k : Nat) (left : List U8) (er : Int) (A1 : Option Addr) (c1 : Nat), k ≤ ls.length ∧ i = .int .i64 k ∧ Hid (left.length ≤ 60) ∧ Hid (Box2 W x12 68 (.slice A1 left.length c1) (.int .i64 er)) ∧ Hid (IsR Z W g left er) ∧ Hid (Rd e8 lo x12 W (.slice A1 left.length c1) left) ∧ Hid (New w W)) (fun i _ => ls.length - (intOf i).toNat)
        case atStart => exact ⟨0, ys, 0, A10, c10, Nat.zero_le _, rfl, HY60, HBx, HI11, HR11, HN11⟩
        case round =>
          obtain ⟨k, left, er, A1, c1, hk, rfl, HLL, HBX, HI, HR, HQ⟩ := hrel
          clear HBx HI11 HR11 HN11
          by_cases hlt : k < ls.length
          · obtain ⟨b, off, e, k0, k1⟩ := (HL.out.new HQ.out).step k hlt
            subst e
            by_cases hk16 : k = 16
            · have hk16' : ((k : Int) == 16) = true := by simp [hk16]
              clear hk16
              have HQ0 := HQ
              have HQ := Lib.hid (HQ0.out.alloc (.cells #[ei ls[k].kind, ei ls[k].n] 70))
              go_wp2_with fail
              refine (nil_Number 1 _).mono ?_
              rintro e wa ⟨rfl, hN⟩
              have HQa := Lib.hid (HQ.out.trans hN)
              clear hN
              go_wp2_with fail
              refine (nil_Bytes 1 _).mono ?_
              rintro e wb ⟨rfl, hN⟩
              have HQb := Lib.hid (HQa.out.trans hN)
              clear hN
              go_wp2_with fail
              refine (nil_Part _).mono ?_
              rintro e wc ⟨rfl, hN⟩
              have HQc := Lib.hid (HQb.out.trans hN)
              clear hN
              go_wp2_with fail
              refine (nil_Left _).mono ?_
              rintro e wd ⟨rfl, rfl⟩
              go_wp2_with fail
              refine (nil_Err _).mono ?_
              rintro e we ⟨rfl, rfl⟩
              go_wp2_with fail
              refine (nil_End _).mono ?_
              rintro e wf ⟨rfl, rfl⟩
              go_wp2
              go_ret
              exact ⟨rfl, HQc.out⟩
            · have hk16' : ((k : Int) == 16) = false := by simp; omega
              clear hk16
              generalize ls[k] = st at *
              obtain ⟨⟨kv, hkv1, hkv2⟩, ⟨nv, hnv1, hnv2⟩⟩ := st
              simp only at *
              have hs12 := Box2.new wr 70 (.int .i64 kv) (.int .i64 nv)
              have hNb := new_alloc wr (.cells #[.int .i64 kv, .int .i64 nv] 70)
              have HB12 := Lib.hid (HBX.out.later hNb)
              have HI12 := Lib.hid (HI.out.new hNb)
              have HR12 := Lib.hid (HR.out.new hNb)
              have HQ12 := Lib.hid (HQ.out.trans hNb)
              have HS12 := Lib.hid hs12
              obtain ⟨s0, s1, _, _⟩ := hs12.cells
              obtain ⟨b0, b1, t0, t1⟩ := HB12.out.cells
              have hsx : ¬ wr.heap.size = x12 := by have := HBX.out.lt; omega
              have hxs : ¬ x12 = wr.heap.size := fun h => hsx h.symm
              have hsg : ¬ wr.heap.size = g := by have := HI.out.lt; omega
              have hll : left.length ≤ 60 := HLL.out
              clear hs12 HBX HI HR HQ
              rcases Decidable.em (kv = 0) with hk0 | hk0
              · subst hk0
                go_wp2_with fail
                refine (ref_RestNumber lo x12 A1 c1 left er nv _ HR12.out (by have := HB12.out.lt; omega)).mono ?_
                have hnr := fun W hI => oc_rNumber (Z := Z) g left er nv W hI
                have hlen := left_num nv er left
                generalize readI 0 (numR nv left) left er = p at *
                obtain ⟨pn, pl, pe⟩ := p
                have HPLL : Hid (pl.length ≤ 60) := Lib.hid (Nat.le_trans hlen hll)
                have HNR := Lib.hid hnr
                clear hnr
                rintro e w13 ⟨hN, A5, c5, rfl, hR5⟩
                obtain ⟨b0, b1, t0, t1⟩ := (HB12.out.later hN).cells
                obtain ⟨s0, s1, _, _⟩ := (HS12.out.later hN).cells
                have HB13 := Lib.hid (HB12.out.later hN)
                have HI13 := Lib.hid (HI12.out.new hN)
                have HQ13 := Lib.hid (HQ12.out.trans hN)
                have HR13 := Lib.hid hR5
                clear hN hR5 HB12 HI12 HQ12 HR12
                go_wp2_with fail
                obtain ⟨W14, hW14⟩ : ∃ W14, (w13.setCell ⟨x12, 0, none⟩ (.slice A5 pl.length c5)).setCell ⟨x12, 1, none⟩ (.int .i64 pe) = W14 := ⟨_, rfl⟩
                have hgx : g < x12 := by have := HGS.out; have := HX12.out; have := HS10.out; omega
                have hc14 : Chg (fun k => k = x12) w13 W14 := by rw [← hW14]; exact ((Chg.refl (fun k => k = x12) w13).setCell (p := ⟨x12, 0, none⟩) (.inl rfl) _).setCell (p := ⟨x12, 1, none⟩) (.inl rfl) _
                have HB14 : Hid (Box2 W14 x12 68 (.slice A5 pl.length c5) (.int .i64 pe)) := Lib.hid (by rw [← hW14]; exact HB13.out.set _ _)
                have HI14 := Lib.hid (HI13.out.chg' hc14 (fun k hk => by have := HI13.out.le; omega))
                have HQ14 : Hid (New w W14) := Lib.hid (HQ13.out.trans' hc14 (fun k hk => by have := HWX.out; omega))
                have HR14 := Lib.hid (HR13.out.chg hc14 (fun k _ hk => by omega))
                rw [hW14]
                clear hW14 hc14 HB13 HI13 HQ13 HR13
                refine (HNR.out _ HI14.out).mono ?_
                rintro e w15 ⟨hC, v', rfl, rfl, hI⟩
                obtain ⟨b0, b1, t0, t1⟩ := (HB14.out.chg hC (by omega)).cells
                have HB15 := Lib.hid (HB14.out.chg hC (by omega))
                have HI15 := Lib.hid hI
                have HQ15 : Hid (New w w15) := Lib.hid (HQ14.out.trans' hC (fun k hk => by have := HSW.out; omega))
                have HR15 := Lib.hid (HR14.out.chg hC (fun k hk _ => by have := HGS.out; omega))
                clear hC hI HB14 HI14 HQ14 HR14 HNR
                rcases Decidable.em (pe = 0) with hpe | hpe
                · subst hpe
                  rcases Decidable.em (pl.length = 0) with hpl | hpl
                  · have HEN := Lib.hid (show endI pl 0 = 0 by rw [endI, if_pos rfl, if_pos hpl])
                    have hpl2 : decide (0 < pl.length) = false := by simp [hpl]
                    clear hpl
                    go_wp2_with fail
                    skip
                    have HL1 := Lib.hid (oc_rLeft g pl 0 w15.drew (HI15.out.new (Below.drew (new_refl _))))
                    have HE1 := Lib.hid (oc_rErr g pl 0 w15.drew (HI15.out.new (Below.drew (new_refl _))))
                    have hd1 := oc_rEnd g pl 0 w15.drew (HI15.out.new (Below.drew (new_refl _)))
                    rw [HEN.out] at hd1
                    have HD1 := Lib.hid hd1
                    clear hd1
                    go_region_held3 (fun w' => w'.cell? ⟨x12, 0, none⟩ = some (.slice A5 pl.length c5) ∧ w'.cell? ⟨x12, 1, none⟩ = some (.int .i64 0))
                      (first | exact ⟨b0, b1⟩ | assumption | go_keep)
                      ((first
                        | (go_at_call 41; (with_reducible refine HL1.out.mono ?_); rintro e w' ⟨rfl, rfl⟩)
                        | (go_at_call 24; (with_reducible refine HE1.out.mono ?_); rintro e w' ⟨rfl, rfl⟩)
                        | (go_at_call 23; (with_reducible refine HD1.out.mono ?_); rintro e w' ⟨rfl, rfl⟩)))
                    have hdr : New w15 w15.drew := Below.drew (new_refl _)
                    go_wp2
                    go_roundw
                    case rel => exact ⟨k + 1, pl, 0, A5, c5, by omega, by go_num, HPLL, Lib.hid (HB15.out.later hdr), Lib.hid (HI15.out.new hdr), Lib.hid (HR15.out.new hdr), Lib.hid (HQ15.out.trans hdr)⟩
                    case measure => simp [intOf]; omega
                  · have HEN := Lib.hid (show endI pl 0 = 113 by rw [endI, if_pos rfl, if_neg hpl])
                    have hpl2 : decide (0 < pl.length) = true := by simp; omega
                    clear hpl
                    go_wp2_with fail
                    skip
                    have HL1 := Lib.hid (oc_rLeft g pl 0 w15.drew (HI15.out.new (Below.drew (new_refl _))))
                    have HE1 := Lib.hid (oc_rErr g pl 0 w15.drew (HI15.out.new (Below.drew (new_refl _))))
                    have hd1 := oc_rEnd g pl 0 w15.drew (HI15.out.new (Below.drew (new_refl _)))
                    rw [HEN.out] at hd1
                    have HD1 := Lib.hid hd1
                    clear hd1
                    go_region_held3 (fun w' => w'.cell? ⟨x12, 0, none⟩ = some (.slice A5 pl.length c5) ∧ w'.cell? ⟨x12, 1, none⟩ = some (.int .i64 0))
                      (first | exact ⟨b0, b1⟩ | assumption | go_keep)
                      ((first
                        | (go_at_call 41; (with_reducible refine HL1.out.mono ?_); rintro e w' ⟨rfl, rfl⟩)
                        | (go_at_call 24; (with_reducible refine HE1.out.mono ?_); rintro e w' ⟨rfl, rfl⟩)
                        | (go_at_call 23; (with_reducible refine HD1.out.mono ?_); rintro e w' ⟨rfl, rfl⟩)))
                    have hdr : New w15 w15.drew := Below.drew (new_refl _)
                    go_wp2
                    go_roundw
                    case rel => exact ⟨k + 1, pl, 0, A5, c5, by omega, by go_num, HPLL, Lib.hid (HB15.out.later hdr), Lib.hid (HI15.out.new hdr), Lib.hid (HR15.out.new hdr), Lib.hid (HQ15.out.trans hdr)⟩
                    case measure => simp [intOf]; omega
                · have hpe2 : (pe == 0) = false := by simpa using hpe
                  have HEN := Lib.hid (show endI pl pe = pe by rw [endI, if_neg hpe])
                  clear hpe
                  go_wp2_with fail
                  skip
                  have HL1 := Lib.hid (oc_rLeft g pl pe w15.drew (HI15.out.new (Below.drew (new_refl _))))
                  have HE1 := Lib.hid (oc_rErr g pl pe w15.drew (HI15.out.new (Below.drew (new_refl _))))
                  have hd1 := oc_rEnd g pl pe w15.drew (HI15.out.new (Below.drew (new_refl _)))
                  rw [HEN.out] at hd1
                  have HD1 := Lib.hid hd1
                  clear hd1
                  go_region_held3 (fun w' => w'.cell? ⟨x12, 0, none⟩ = some (.slice A5 pl.length c5) ∧ w'.cell? ⟨x12, 1, none⟩ = some (.int .i64 pe))
                    (first | exact ⟨b0, b1⟩ | assumption | go_keep)
                    ((first
                      | (go_at_call 41; (with_reducible refine HL1.out.mono ?_); rintro e w' ⟨rfl, rfl⟩)
                      | (go_at_call 24; (with_reducible refine HE1.out.mono ?_); rintro e w' ⟨rfl, rfl⟩)
                      | (go_at_call 23; (with_reducible refine HD1.out.mono ?_); rintro e w' ⟨rfl, rfl⟩)))
                  have hdr : New w15 w15.drew := Below.drew (new_refl _)
                  go_wp2
                  go_roundw
                  case rel => exact ⟨k + 1, pl, pe, A5, c5, by omega, by go_num, HPLL, Lib.hid (HB15.out.later hdr), Lib.hid (HI15.out.new hdr), Lib.hid (HR15.out.new hdr), Lib.hid (HQ15.out.trans hdr)⟩
                  case measure => simp [intOf]; omega
              · have hk0' : (kv == 0) = false := by simpa using hk0
                rcases Decidable.em (kv = 1) with hk1 | hk1
                · subst hk1
                  have hrd := fun W hI => oc_rBytes (Z := Z) g left er nv W (by omega) hI
                  have htk := fun W hR (_ : x12 ≤ W.heap.size) => ref_Take lo x12 A1 c1 left er nv W hR
                  obtain ⟨hle1, hle2⟩ := left_bytes nv er left
                  generalize readI [] (bytesR nv left) left er = p at *
                  obtain ⟨pb, pl, pe⟩ := p
                  have HPLL : Hid (pl.length ≤ 60) := Lib.hid (Nat.le_trans hle1 hll)
                  have HPBL : Hid (pb.length ≤ 60) := Lib.hid (Nat.le_trans hle2 hll)
                  have HRD := Lib.hid hrd
                  have HTK := Lib.hid htk
                  clear hrd htk hle1 hle2
                  have hgx : g < x12 := by have := HGS.out; have := HX12.out; have := HS10.out; omega
                  obtain ⟨lo12, hlo12⟩ : ∃ z, z = (wr.alloc (.cells #[.int .i64 1, .int .i64 nv] 70)).heap.size := ⟨_, rfl⟩
                  have HLO := Lib.hid (show x12 < lo12 ∧ wr.heap.size < lo12 by have := HB12.out.lt; rw [hlo12]; simp at this ⊢; omega)
                  have HWL := Lib.hid (show w.heap.size ≤ lo12 by have := HWX.out; have := HLO.out; omega)
                  go_wp2_with fail
                  refine (HRD.out _ HI12.out).mono ?_
                  rintro e w13 ⟨hC, v13, rfl, ⟨A8, c8, rfl, hO⟩, hI⟩
                  rw [← hlo12] at hO
                  obtain ⟨b0, b1, t0, t1⟩ := (HB12.out.chg hC (by omega)).cells
                  obtain ⟨s0, s1, _, _⟩ := (HS12.out.chg hC (by omega)).cells
                  have HB13 := Lib.hid (HB12.out.chg hC (by omega))
                  have HS13 := Lib.hid (HS12.out.chg hC (by omega))
                  have HI13 := Lib.hid hI
                  have HQ13 : Hid (New w w13) := Lib.hid (HQ12.out.trans' hC (fun k hk => by have := HSW.out; omega))
                  have HR13 := Lib.hid (HR12.out.chg hC (fun k hk _ => by have := HGS.out; omega))
                  have HO13 := Lib.hid hO
                  clear hC hO hI HB12 HS12 HI12 HQ12 HR12 hlo12
                  go_wp2_with fail
                  refine (HTK.out _ HR13.out (Nat.le_of_lt HB13.out.lt)).mono ?_
                  rintro e w14 ⟨hN, A5, c5, A6, c6, rfl, hR5, hR6⟩
                  obtain ⟨b0, b1, t0, t1⟩ := (HB13.out.later hN).cells
                  obtain ⟨s0, s1, _, _⟩ := (HS13.out.later hN).cells
                  have HB14 := Lib.hid (HB13.out.later hN)
                  have HI14 := Lib.hid (HI13.out.new hN)
                  have HQ14 := Lib.hid (HQ13.out.trans hN)
                  have HO14 := Lib.hid (HO13.out.new hN)
                  have HR14 := Lib.hid hR5
                  have HG14 := Lib.hid hR6
                  clear hN hR5 hR6 HB13 HS13 HI13 HQ13 HR13 HO13
                  go_wp2_with fail
                  obtain ⟨W15, hW15⟩ : ∃ W15, (w14.setCell ⟨x12, 0, none⟩ (.slice A5 pl.length c5)).setCell ⟨x12, 1, none⟩ (.int .i64 pe) = W15 := ⟨_, rfl⟩
                  have hc15 : Chg (fun k => k = x12) w14 W15 := by rw [← hW15]; exact ((Chg.refl (fun k => k = x12) w14).setCell (p := ⟨x12, 0, none⟩) (.inl rfl) _).setCell (p := ⟨x12, 1, none⟩) (.inl rfl) _
                  have HB15 : Hid (Box2 W15 x12 68 (.slice A5 pl.length c5) (.int .i64 pe)) := Lib.hid (by rw [← hW15]; exact HB14.out.set _ _)
                  have HI15 := Lib.hid (HI14.out.chg' hc15 (fun k hk => by have := HI14.out.le; omega))
                  have HQ15 : Hid (New w W15) := Lib.hid (HQ14.out.trans' hc15 (fun k hk => by have := HWX.out; omega))
                  have HR15 := Lib.hid (HR14.out.chg hc15 (fun k _ hk => by omega))
                  have HG15 := Lib.hid (HG14.out.chg hc15 (fun k _ hk => by omega))
                  have HO15 := Lib.hid (HO14.out.chg hc15 (fun k hk => by have := (HO14.out.lt k hk).1; have := HLO.out; omega))
                  rw [hW15]
                  clear hW15 hc15 HB14 HI14 HQ14 HR14 HG14 HO14
                  refine (ref_Same _ _ _ _ _ _ pb pb _ (HO15.out.rd (Nat.le_refl _)) HG15.out).mono ?_
                  rw [decide_eq_true (rfl : pb = pb)]
                  rintro e w' ⟨rfl, rfl⟩
                  clear HG15
                  go_wp2_with fail
                  go_loopw [141, 18] (fun i _ W => ∃ (j : Nat) (zs : List U8), j ≤ pb.length ∧ i = .int .i64 j ∧ Hid (zs.length = pb.length) ∧ Hid (Own e8 5 lo12 W (.slice A8 pb.length c8) zs) ∧ Hid (Below lo12 W15 W)) (fun i _ _ => pb.length - (intOf i).toNat)
                  case atStart => exact ⟨0, pb, Nat.zero_le _, rfl, Lib.hid rfl, HO15, Lib.hid (Below.refl _ _)⟩
                  case round =>
                    obtain ⟨j, zs, hj, rfl, HZL, HZO, HZB⟩ := hrel
                    by_cases hjl : j < pb.length
                    · obtain ⟨gb, rfl, hlo, hgl, hcell, hfr, hst⟩ := HZO.out.store (HZL.out).symm j (by rw [HZL.out]; exact hjl)
                      have hpl : pb.length ≤ 60 := HPBL.out
                      have hjz : j < zs.length := by rw [HZL.out]; exact hjl
                      have HST := Lib.hid (hst ⟨(zs[j].1 + 1) % 256, wrap_u8_bound _⟩)
                      have HLOG := Lib.hid hlo
                      clear hst hlo
                      go_wp2
                      go_roundw
                      case rel => exact ⟨j + 1, zs.set j ⟨(zs[j].1 + 1) % 256, wrap_u8_bound _⟩, by omega, by go_num, Lib.hid (by rw [List.length_set]; exact HZL.out), HST, Lib.hid (HZB.out.setCell (p := ⟨gb, j, none⟩) HLOG.out _)⟩
                      case measure => simp [intOf]; omega
                    · have hnx := fun k (hk : k < w.heap.size) => hk
                      have HBz := HZB
                      have HB15 := Lib.hid (HB15.out.chg (chg_of_below (M := fun k => lo12 ≤ k) HBz.out (fun k _ h => h)) (by have := HLO.out; omega))
                      have HI15 := Lib.hid (HI15.out.chg' (chg_of_below (M := fun k => lo12 ≤ k) HBz.out (fun k _ h => h)) (fun k hk => by have := HLO.out; have := HI15.out.le; omega))
                      have HQ15 : Hid (New w wr) := Lib.hid (HQ15.out.trans' (chg_of_below (M := fun k => lo12 ≤ k) HBz.out (fun k _ h => h)) (fun k hk => by have := HWL.out; omega))
                      have HR15 := Lib.hid (HR15.out.chg (chg_of_below (M := fun k => lo12 ≤ k) HBz.out (fun k _ h => h)) (fun k _ hk => by have := HLO.out; omega))
                      obtain ⟨b0, b1, t0, t1⟩ := HB15.out.cells
                      clear HZL HZO HZB HBz HO15 hnx
                      rcases Decidable.em (pe = 0) with hpe | hpe
                      · subst hpe
                        rcases Decidable.em (pl.length = 0) with hpl | hpl
                        · have HEN := Lib.hid (show endI pl 0 = 0 by rw [endI, if_pos rfl, if_pos hpl])
                          have hpl2 : decide (0 < pl.length) = false := by simp [hpl]
                          clear hpl
                          go_wp2_with fail
                          skip
                          have HL1 := Lib.hid (oc_rLeft g pl 0 wr.drew (HI15.out.new (Below.drew (new_refl _))))
                          have HE1 := Lib.hid (oc_rErr g pl 0 wr.drew (HI15.out.new (Below.drew (new_refl _))))
                          have hd1 := oc_rEnd g pl 0 wr.drew (HI15.out.new (Below.drew (new_refl _)))
                          rw [HEN.out] at hd1
                          have HD1 := Lib.hid hd1
                          clear hd1
                          go_region_held3 (fun w' => w'.cell? ⟨x12, 0, none⟩ = some (.slice A5 pl.length c5) ∧ w'.cell? ⟨x12, 1, none⟩ = some (.int .i64 0))
                            (first | exact ⟨b0, b1⟩ | assumption | go_keep)
                            ((first
                              | (go_at_call 41; (with_reducible refine HL1.out.mono ?_); rintro e w' ⟨rfl, rfl⟩)
                              | (go_at_call 24; (with_reducible refine HE1.out.mono ?_); rintro e w' ⟨rfl, rfl⟩)
                              | (go_at_call 23; (with_reducible refine HD1.out.mono ?_); rintro e w' ⟨rfl, rfl⟩)))
                          have hdr : New wr wr.drew := Below.drew (new_refl _)
                          go_wp2
                          go_roundw
                          case rel => exact ⟨k + 1, pl, 0, A5, c5, by omega, by go_num, HPLL, Lib.hid (HB15.out.later hdr), Lib.hid (HI15.out.new hdr), Lib.hid (HR15.out.new hdr), Lib.hid (HQ15.out.trans hdr)⟩
                          case measure => simp [intOf]; omega
                        · have HEN := Lib.hid (show endI pl 0 = 113 by rw [endI, if_pos rfl, if_neg hpl])
                          have hpl2 : decide (0 < pl.length) = true := by simp; omega
                          clear hpl
                          go_wp2_with fail
                          skip
                          have HL1 := Lib.hid (oc_rLeft g pl 0 wr.drew (HI15.out.new (Below.drew (new_refl _))))
                          have HE1 := Lib.hid (oc_rErr g pl 0 wr.drew (HI15.out.new (Below.drew (new_refl _))))
                          have hd1 := oc_rEnd g pl 0 wr.drew (HI15.out.new (Below.drew (new_refl _)))
                          rw [HEN.out] at hd1
                          have HD1 := Lib.hid hd1
                          clear hd1
                          go_region_held3 (fun w' => w'.cell? ⟨x12, 0, none⟩ = some (.slice A5 pl.length c5) ∧ w'.cell? ⟨x12, 1, none⟩ = some (.int .i64 0))
                            (first | exact ⟨b0, b1⟩ | assumption | go_keep)
                            ((first
                              | (go_at_call 41; (with_reducible refine HL1.out.mono ?_); rintro e w' ⟨rfl, rfl⟩)
                              | (go_at_call 24; (with_reducible refine HE1.out.mono ?_); rintro e w' ⟨rfl, rfl⟩)
                              | (go_at_call 23; (with_reducible refine HD1.out.mono ?_); rintro e w' ⟨rfl, rfl⟩)))
                          have hdr : New wr wr.drew := Below.drew (new_refl _)
                          go_wp2
                          go_roundw
                          case rel => exact ⟨k + 1, pl, 0, A5, c5, by omega, by go_num, HPLL, Lib.hid (HB15.out.later hdr), Lib.hid (HI15.out.new hdr), Lib.hid (HR15.out.new hdr), Lib.hid (HQ15.out.trans hdr)⟩
                          case measure => simp [intOf]; omega
                      · have hpe2 : (pe == 0) = false := by simpa using hpe
                        have HEN := Lib.hid (show endI pl pe = pe by rw [endI, if_neg hpe])
                        clear hpe
                        go_wp2_with fail
                        skip
                        have HL1 := Lib.hid (oc_rLeft g pl pe wr.drew (HI15.out.new (Below.drew (new_refl _))))
                        have HE1 := Lib.hid (oc_rErr g pl pe wr.drew (HI15.out.new (Below.drew (new_refl _))))
                        have hd1 := oc_rEnd g pl pe wr.drew (HI15.out.new (Below.drew (new_refl _)))
                        rw [HEN.out] at hd1
                        have HD1 := Lib.hid hd1
                        clear hd1
                        go_region_held3 (fun w' => w'.cell? ⟨x12, 0, none⟩ = some (.slice A5 pl.length c5) ∧ w'.cell? ⟨x12, 1, none⟩ = some (.int .i64 pe))
                          (first | exact ⟨b0, b1⟩ | assumption | go_keep)
                          ((first
                            | (go_at_call 41; (with_reducible refine HL1.out.mono ?_); rintro e w' ⟨rfl, rfl⟩)
                            | (go_at_call 24; (with_reducible refine HE1.out.mono ?_); rintro e w' ⟨rfl, rfl⟩)
                            | (go_at_call 23; (with_reducible refine HD1.out.mono ?_); rintro e w' ⟨rfl, rfl⟩)))
                        have hdr : New wr wr.drew := Below.drew (new_refl _)
                        go_wp2
                        go_roundw
                        case rel => exact ⟨k + 1, pl, pe, A5, c5, by omega, by go_num, HPLL, Lib.hid (HB15.out.later hdr), Lib.hid (HI15.out.new hdr), Lib.hid (HR15.out.new hdr), Lib.hid (HQ15.out.trans hdr)⟩
                        case measure => simp [intOf]; omega
                · have hk1' : (kv == 1) = false := by simpa using hk1
                  rcases Decidable.em (kv = 2) with hk2 | hk2
                  · subst hk2
                    have hrd := fun W hI => oc_rPart (Z := Z) g left er W (by omega) hI
                    have htk := fun W hR (h : x12 ≤ W.heap.size) => ref_RestPart lo x12 A1 c1 left er W hR h
                    obtain ⟨hle1, hle2⟩ := left_part er left
                    generalize readI [] (partR left) left er = p at *
                    obtain ⟨pb, pl, pe⟩ := p
                    have HPLL : Hid (pl.length ≤ 60) := Lib.hid (Nat.le_trans hle1 hll)
                    have HPBL : Hid (pb.length ≤ 60) := Lib.hid (Nat.le_trans hle2 hll)
                    have HRD := Lib.hid hrd
                    have HTK := Lib.hid htk
                    clear hrd htk hle1 hle2
                    have hgx : g < x12 := by have := HGS.out; have := HX12.out; have := HS10.out; omega
                    obtain ⟨lo12, hlo12⟩ : ∃ z, z = (wr.alloc (.cells #[.int .i64 2, .int .i64 nv] 70)).heap.size := ⟨_, rfl⟩
                    have HLO := Lib.hid (show x12 < lo12 ∧ wr.heap.size < lo12 by have := HB12.out.lt; rw [hlo12]; simp at this ⊢; omega)
                    have HWL := Lib.hid (show w.heap.size ≤ lo12 by have := HWX.out; have := HLO.out; omega)
                    go_wp2_with fail
                    refine (HRD.out _ HI12.out).mono ?_
                    rintro e w13 ⟨hC, v13, rfl, ⟨A8, c8, rfl, hO⟩, hI⟩
                    rw [← hlo12] at hO
                    obtain ⟨b0, b1, t0, t1⟩ := (HB12.out.chg hC (by omega)).cells
                    obtain ⟨s0, s1, _, _⟩ := (HS12.out.chg hC (by omega)).cells
                    have HB13 := Lib.hid (HB12.out.chg hC (by omega))
                    have HS13 := Lib.hid (HS12.out.chg hC (by omega))
                    have HI13 := Lib.hid hI
                    have HQ13 : Hid (New w w13) := Lib.hid (HQ12.out.trans' hC (fun k hk => by have := HSW.out; omega))
                    have HR13 := Lib.hid (HR12.out.chg hC (fun k hk _ => by have := HGS.out; omega))
                    have HO13 := Lib.hid hO
                    clear hC hO hI HB12 HS12 HI12 HQ12 HR12 hlo12
                    go_wp2_with fail
                    refine (HTK.out _ HR13.out (Nat.le_of_lt HB13.out.lt)).mono ?_
                    rintro e w14 ⟨hN, A5, c5, A6, c6, rfl, hR5, hR6⟩
                    obtain ⟨b0, b1, t0, t1⟩ := (HB13.out.later hN).cells
                    obtain ⟨s0, s1, _, _⟩ := (HS13.out.later hN).cells
                    have HB14 := Lib.hid (HB13.out.later hN)
                    have HI14 := Lib.hid (HI13.out.new hN)
                    have HQ14 := Lib.hid (HQ13.out.trans hN)
                    have HO14 := Lib.hid (HO13.out.new hN)
                    have HR14 := Lib.hid hR5
                    have HG14 := Lib.hid hR6
                    clear hN hR5 hR6 HB13 HS13 HI13 HQ13 HR13 HO13
                    go_wp2_with fail
                    obtain ⟨W15, hW15⟩ : ∃ W15, (w14.setCell ⟨x12, 0, none⟩ (.slice A5 pl.length c5)).setCell ⟨x12, 1, none⟩ (.int .i64 pe) = W15 := ⟨_, rfl⟩
                    have hc15 : Chg (fun k => k = x12) w14 W15 := by rw [← hW15]; exact ((Chg.refl (fun k => k = x12) w14).setCell (p := ⟨x12, 0, none⟩) (.inl rfl) _).setCell (p := ⟨x12, 1, none⟩) (.inl rfl) _
                    have HB15 : Hid (Box2 W15 x12 68 (.slice A5 pl.length c5) (.int .i64 pe)) := Lib.hid (by rw [← hW15]; exact HB14.out.set _ _)
                    have HI15 := Lib.hid (HI14.out.chg' hc15 (fun k hk => by have := HI14.out.le; omega))
                    have HQ15 : Hid (New w W15) := Lib.hid (HQ14.out.trans' hc15 (fun k hk => by have := HWX.out; omega))
                    have HR15 := Lib.hid (HR14.out.chg hc15 (fun k _ hk => by omega))
                    have HG15 := Lib.hid (HG14.out.chg hc15 (fun k _ hk => by omega))
                    have HO15 := Lib.hid (HO14.out.chg hc15 (fun k hk => by have := (HO14.out.lt k hk).1; have := HLO.out; omega))
                    rw [hW15]
                    clear hW15 hc15 HB14 HI14 HQ14 HR14 HG14 HO14
                    refine (ref_Same _ _ _ _ _ _ pb pb _ (HO15.out.rd (Nat.le_refl _)) HG15.out).mono ?_
                    rw [decide_eq_true (rfl : pb = pb)]
                    rintro e w' ⟨rfl, rfl⟩
                    clear HG15
                    go_wp2_with fail
                    go_loopw [141, 18] (fun i _ W => ∃ (j : Nat) (zs : List U8), j ≤ pb.length ∧ i = .int .i64 j ∧ Hid (zs.length = pb.length) ∧ Hid (Own e8 5 lo12 W (.slice A8 pb.length c8) zs) ∧ Hid (Below lo12 W15 W)) (fun i _ _ => pb.length - (intOf i).toNat)
                    case atStart => exact ⟨0, pb, Nat.zero_le _, rfl, Lib.hid rfl, HO15, Lib.hid (Below.refl _ _)⟩
                    case round =>
                      obtain ⟨j, zs, hj, rfl, HZL, HZO, HZB⟩ := hrel
                      by_cases hjl : j < pb.length
                      · obtain ⟨gb, rfl, hlo, hgl, hcell, hfr, hst⟩ := HZO.out.store (HZL.out).symm j (by rw [HZL.out]; exact hjl)
                        have hpl : pb.length ≤ 60 := HPBL.out
                        have hjz : j < zs.length := by rw [HZL.out]; exact hjl
                        have HST := Lib.hid (hst ⟨(zs[j].1 + 1) % 256, wrap_u8_bound _⟩)
                        have HLOG := Lib.hid hlo
                        clear hst hlo
                        go_wp2
                        go_roundw
                        case rel => exact ⟨j + 1, zs.set j ⟨(zs[j].1 + 1) % 256, wrap_u8_bound _⟩, by omega, by go_num, Lib.hid (by rw [List.length_set]; exact HZL.out), HST, Lib.hid (HZB.out.setCell (p := ⟨gb, j, none⟩) HLOG.out _)⟩
                        case measure => simp [intOf]; omega
                      · have hnx := fun k (hk : k < w.heap.size) => hk
                        have HBz := HZB
                        have HB15 := Lib.hid (HB15.out.chg (chg_of_below (M := fun k => lo12 ≤ k) HBz.out (fun k _ h => h)) (by have := HLO.out; omega))
                        have HI15 := Lib.hid (HI15.out.chg' (chg_of_below (M := fun k => lo12 ≤ k) HBz.out (fun k _ h => h)) (fun k hk => by have := HLO.out; have := HI15.out.le; omega))
                        have HQ15 : Hid (New w wr) := Lib.hid (HQ15.out.trans' (chg_of_below (M := fun k => lo12 ≤ k) HBz.out (fun k _ h => h)) (fun k hk => by have := HWL.out; omega))
                        have HR15 := Lib.hid (HR15.out.chg (chg_of_below (M := fun k => lo12 ≤ k) HBz.out (fun k _ h => h)) (fun k _ hk => by have := HLO.out; omega))
                        obtain ⟨b0, b1, t0, t1⟩ := HB15.out.cells
                        clear HZL HZO HZB HBz HO15 hnx
                        rcases Decidable.em (pe = 0) with hpe | hpe
                        · subst hpe
                          rcases Decidable.em (pl.length = 0) with hpl | hpl
                          · have HEN := Lib.hid (show endI pl 0 = 0 by rw [endI, if_pos rfl, if_pos hpl])
                            have hpl2 : decide (0 < pl.length) = false := by simp [hpl]
                            clear hpl
                            go_wp2_with fail
                            skip
                            have HL1 := Lib.hid (oc_rLeft g pl 0 wr.drew (HI15.out.new (Below.drew (new_refl _))))
                            have HE1 := Lib.hid (oc_rErr g pl 0 wr.drew (HI15.out.new (Below.drew (new_refl _))))
                            have hd1 := oc_rEnd g pl 0 wr.drew (HI15.out.new (Below.drew (new_refl _)))
                            rw [HEN.out] at hd1
                            have HD1 := Lib.hid hd1
                            clear hd1
                            go_region_held3 (fun w' => w'.cell? ⟨x12, 0, none⟩ = some (.slice A5 pl.length c5) ∧ w'.cell? ⟨x12, 1, none⟩ = some (.int .i64 0))
                              (first | exact ⟨b0, b1⟩ | assumption | go_keep)
                              ((first
                                | (go_at_call 41; (with_reducible refine HL1.out.mono ?_); rintro e w' ⟨rfl, rfl⟩)
                                | (go_at_call 24; (with_reducible refine HE1.out.mono ?_); rintro e w' ⟨rfl, rfl⟩)
                                | (go_at_call 23; (with_reducible refine HD1.out.mono ?_); rintro e w' ⟨rfl, rfl⟩)))
                            have hdr : New wr wr.drew := Below.drew (new_refl _)
                            go_wp2
                            go_roundw
                            case rel => exact ⟨k + 1, pl, 0, A5, c5, by omega, by go_num, HPLL, Lib.hid (HB15.out.later hdr), Lib.hid (HI15.out.new hdr), Lib.hid (HR15.out.new hdr), Lib.hid (HQ15.out.trans hdr)⟩
                            case measure => simp [intOf]; omega
                          · have HEN := Lib.hid (show endI pl 0 = 113 by rw [endI, if_pos rfl, if_neg hpl])
                            have hpl2 : decide (0 < pl.length) = true := by simp; omega
                            clear hpl
                            go_wp2_with fail
                            skip
                            have HL1 := Lib.hid (oc_rLeft g pl 0 wr.drew (HI15.out.new (Below.drew (new_refl _))))
                            have HE1 := Lib.hid (oc_rErr g pl 0 wr.drew (HI15.out.new (Below.drew (new_refl _))))
                            have hd1 := oc_rEnd g pl 0 wr.drew (HI15.out.new (Below.drew (new_refl _)))
                            rw [HEN.out] at hd1
                            have HD1 := Lib.hid hd1
                            clear hd1
                            go_region_held3 (fun w' => w'.cell? ⟨x12, 0, none⟩ = some (.slice A5 pl.length c5) ∧ w'.cell? ⟨x12, 1, none⟩ = some (.int .i64 0))
                              (first | exact ⟨b0, b1⟩ | assumption | go_keep)
                              ((first
                                | (go_at_call 41; (with_reducible refine HL1.out.mono ?_); rintro e w' ⟨rfl, rfl⟩)
                                | (go_at_call 24; (with_reducible refine HE1.out.mono ?_); rintro e w' ⟨rfl, rfl⟩)
                                | (go_at_call 23; (with_reducible refine HD1.out.mono ?_); rintro e w' ⟨rfl, rfl⟩)))
                            have hdr : New wr wr.drew := Below.drew (new_refl _)
                            go_wp2
                            go_roundw
                            case rel => exact ⟨k + 1, pl, 0, A5, c5, by omega, by go_num, HPLL, Lib.hid (HB15.out.later hdr), Lib.hid (HI15.out.new hdr), Lib.hid (HR15.out.new hdr), Lib.hid (HQ15.out.trans hdr)⟩
                            case measure => simp [intOf]; omega
                        · have hpe2 : (pe == 0) = false := by simpa using hpe
                          have HEN := Lib.hid (show endI pl pe = pe by rw [endI, if_neg hpe])
                          clear hpe
                          go_wp2_with fail
                          skip
                          have HL1 := Lib.hid (oc_rLeft g pl pe wr.drew (HI15.out.new (Below.drew (new_refl _))))
                          have HE1 := Lib.hid (oc_rErr g pl pe wr.drew (HI15.out.new (Below.drew (new_refl _))))
                          have hd1 := oc_rEnd g pl pe wr.drew (HI15.out.new (Below.drew (new_refl _)))
                          rw [HEN.out] at hd1
                          have HD1 := Lib.hid hd1
                          clear hd1
                          go_region_held3 (fun w' => w'.cell? ⟨x12, 0, none⟩ = some (.slice A5 pl.length c5) ∧ w'.cell? ⟨x12, 1, none⟩ = some (.int .i64 pe))
                            (first | exact ⟨b0, b1⟩ | assumption | go_keep)
                            ((first
                              | (go_at_call 41; (with_reducible refine HL1.out.mono ?_); rintro e w' ⟨rfl, rfl⟩)
                              | (go_at_call 24; (with_reducible refine HE1.out.mono ?_); rintro e w' ⟨rfl, rfl⟩)
                              | (go_at_call 23; (with_reducible refine HD1.out.mono ?_); rintro e w' ⟨rfl, rfl⟩)))
                          have hdr : New wr wr.drew := Below.drew (new_refl _)
                          go_wp2
                          go_roundw
                          case rel => exact ⟨k + 1, pl, pe, A5, c5, by omega, by go_num, HPLL, Lib.hid (HB15.out.later hdr), Lib.hid (HI15.out.new hdr), Lib.hid (HR15.out.new hdr), Lib.hid (HQ15.out.trans hdr)⟩
                          case measure => simp [intOf]; omega
                  · have hk2' : (kv == 2) = false := by simpa using hk2
                    have HPLL := HLL
                    have HB15 := HB12
                    have HI15 := HI12
                    have HR15 := HR12
                    have HQ15 := HQ12
                    clear HB12 HI12 HR12 HQ12 HS12 hk0 hk1 hk2
                    rcases Decidable.em (er = 0) with hpe | hpe
                    · subst hpe
                      rcases Decidable.em (left.length = 0) with hpl | hpl
                      · have HEN := Lib.hid (show endI left 0 = 0 by rw [endI, if_pos rfl, if_pos hpl])
                        have hpl2 : decide (0 < left.length) = false := by simp [hpl]
                        clear hpl
                        go_wp2_with fail
                        (generalize hw15 : wr.alloc (.cells #[.int .i64 kv, .int .i64 nv] 70) = w15 at *)
                        have HL1 := Lib.hid (oc_rLeft g left 0 w15.drew (HI15.out.new (Below.drew (new_refl _))))
                        have HE1 := Lib.hid (oc_rErr g left 0 w15.drew (HI15.out.new (Below.drew (new_refl _))))
                        have hd1 := oc_rEnd g left 0 w15.drew (HI15.out.new (Below.drew (new_refl _)))
                        rw [HEN.out] at hd1
                        have HD1 := Lib.hid hd1
                        clear hd1
                        go_region_held3 (fun w' => w'.cell? ⟨x12, 0, none⟩ = some (.slice A1 left.length c1) ∧ w'.cell? ⟨x12, 1, none⟩ = some (.int .i64 0))
                          (first | exact ⟨b0, b1⟩ | assumption | go_keep)
                          ((first
                            | (go_at_call 41; (with_reducible refine HL1.out.mono ?_); rintro e w' ⟨rfl, rfl⟩)
                            | (go_at_call 24; (with_reducible refine HE1.out.mono ?_); rintro e w' ⟨rfl, rfl⟩)
                            | (go_at_call 23; (with_reducible refine HD1.out.mono ?_); rintro e w' ⟨rfl, rfl⟩)))
                        have hdr : New w15 w15.drew := Below.drew (new_refl _)
                        go_wp2
                        go_roundw
                        case rel => exact ⟨k + 1, left, 0, A1, c1, by omega, by go_num, HPLL, Lib.hid (HB15.out.later hdr), Lib.hid (HI15.out.new hdr), Lib.hid (HR15.out.new hdr), Lib.hid (HQ15.out.trans hdr)⟩
                        case measure => simp [intOf]; omega
                      · have HEN := Lib.hid (show endI left 0 = 113 by rw [endI, if_pos rfl, if_neg hpl])
                        have hpl2 : decide (0 < left.length) = true := by simp; omega
                        clear hpl
                        go_wp2_with fail
                        (generalize hw15 : wr.alloc (.cells #[.int .i64 kv, .int .i64 nv] 70) = w15 at *)
                        have HL1 := Lib.hid (oc_rLeft g left 0 w15.drew (HI15.out.new (Below.drew (new_refl _))))
                        have HE1 := Lib.hid (oc_rErr g left 0 w15.drew (HI15.out.new (Below.drew (new_refl _))))
                        have hd1 := oc_rEnd g left 0 w15.drew (HI15.out.new (Below.drew (new_refl _)))
                        rw [HEN.out] at hd1
                        have HD1 := Lib.hid hd1
                        clear hd1
                        go_region_held3 (fun w' => w'.cell? ⟨x12, 0, none⟩ = some (.slice A1 left.length c1) ∧ w'.cell? ⟨x12, 1, none⟩ = some (.int .i64 0))
                          (first | exact ⟨b0, b1⟩ | assumption | go_keep)
                          ((first
                            | (go_at_call 41; (with_reducible refine HL1.out.mono ?_); rintro e w' ⟨rfl, rfl⟩)
                            | (go_at_call 24; (with_reducible refine HE1.out.mono ?_); rintro e w' ⟨rfl, rfl⟩)
                            | (go_at_call 23; (with_reducible refine HD1.out.mono ?_); rintro e w' ⟨rfl, rfl⟩)))
                        have hdr : New w15 w15.drew := Below.drew (new_refl _)
                        go_wp2
                        go_roundw
                        case rel => exact ⟨k + 1, left, 0, A1, c1, by omega, by go_num, HPLL, Lib.hid (HB15.out.later hdr), Lib.hid (HI15.out.new hdr), Lib.hid (HR15.out.new hdr), Lib.hid (HQ15.out.trans hdr)⟩
                        case measure => simp [intOf]; omega
                    · have hpe2 : (er == 0) = false := by simpa using hpe
                      have HEN := Lib.hid (show endI left er = er by rw [endI, if_neg hpe])
                      clear hpe
                      go_wp2_with fail
                      (generalize hw15 : wr.alloc (.cells #[.int .i64 kv, .int .i64 nv] 70) = w15 at *)
                      have HL1 := Lib.hid (oc_rLeft g left er w15.drew (HI15.out.new (Below.drew (new_refl _))))
                      have HE1 := Lib.hid (oc_rErr g left er w15.drew (HI15.out.new (Below.drew (new_refl _))))
                      have hd1 := oc_rEnd g left er w15.drew (HI15.out.new (Below.drew (new_refl _)))
                      rw [HEN.out] at hd1
                      have HD1 := Lib.hid hd1
                      clear hd1
                      go_region_held3 (fun w' => w'.cell? ⟨x12, 0, none⟩ = some (.slice A1 left.length c1) ∧ w'.cell? ⟨x12, 1, none⟩ = some (.int .i64 er))
                        (first | exact ⟨b0, b1⟩ | assumption | go_keep)
                        ((first
                          | (go_at_call 41; (with_reducible refine HL1.out.mono ?_); rintro e w' ⟨rfl, rfl⟩)
                          | (go_at_call 24; (with_reducible refine HE1.out.mono ?_); rintro e w' ⟨rfl, rfl⟩)
                          | (go_at_call 23; (with_reducible refine HD1.out.mono ?_); rintro e w' ⟨rfl, rfl⟩)))
                      have hdr : New w15 w15.drew := Below.drew (new_refl _)
                      go_wp2
                      go_roundw
                      case rel => exact ⟨k + 1, left, er, A1, c1, by omega, by go_num, HPLL, Lib.hid (HB15.out.later hdr), Lib.hid (HI15.out.new hdr), Lib.hid (HR15.out.new hdr), Lib.hid (HQ15.out.trans hdr)⟩
                      case measure => simp [intOf]; omega
          · clear hk
            go_wp2_with fail
            refine (nil_Number 1 _).mono ?_
            rintro e wa ⟨rfl, hN⟩
            have HQa := Lib.hid (HQ.out.trans hN)
            clear hN
            go_wp2_with fail
            refine (nil_Bytes 1 _).mono ?_
            rintro e wb ⟨rfl, hN⟩
            have HQb := Lib.hid (HQa.out.trans hN)
            clear hN
            go_wp2_with fail
            refine (nil_Part _).mono ?_
            rintro e wc ⟨rfl, hN⟩
            have HQc := Lib.hid (HQb.out.trans hN)
            clear hN
            go_wp2_with fail
            refine (nil_Left _).mono ?_
            rintro e wd ⟨rfl, rfl⟩
            go_wp2_with fail
            refine (nil_Err _).mono ?_
            rintro e we ⟨rfl, rfl⟩
            go_wp2_with fail
            refine (nil_End _).mono ?_
            rintro e wf ⟨rfl, rfl⟩
            go_wp2
            go_ret
            exact ⟨rfl, HQc.out⟩
end Go.Proofs.Ytcbijmlkkdpheaa
