/- The law RunsSpoilt. -/
import Derived.Test.YthihffglkheleaaUb
set_option linter.unusedVariables false
set_option linter.unusedSimpArgs false
namespace Go.Proofs.Ythihffglkheleaa
open Go.RowKit

theorem Rd.le_cap {α : Type} {enc : α → Value} {lo hi : Nat} {w : World} {A : Option Addr} {c : Nat} {xs : List α} (h : Rd enc lo hi w (.slice A xs.length c) xs) : xs.length ≤ c := by
  obtain ⟨A', c', e, h1, h2, h3⟩ := h
  injection e with _ _ e
  omega
theorem ofInt8 (x : U8) : (BitVec.ofInt 8 x.1).toNat = x.1.toNat := by
  have := x.2
  rw [BitVec.toNat_ofInt]
  omega
theorem xor8 (x y : U8) : ∃ z : U8, bits .xor .u8 x.1 y.1 = z.1 ∧ (z = x ↔ y.1 = 0) := by
  have hlt : (BitVec.ofInt 8 x.1 ^^^ BitVec.ofInt 8 y.1).toNat < 256 := (BitVec.ofInt 8 x.1 ^^^ BitVec.ofInt 8 y.1).isLt
  have hb : bits .xor .u8 x.1 y.1 = (BitVec.ofInt 8 x.1 ^^^ BitVec.ofInt 8 y.1).toNat := by
    show IntKind.u8.wrap ((BitVec.ofInt 8 x.1 ^^^ BitVec.ofInt 8 y.1).toNat : Int) = _
    rw [IntKind.wrap_u8]; omega
  refine ⟨⟨(BitVec.ofInt 8 x.1 ^^^ BitVec.ofInt 8 y.1).toNat, by omega, by omega⟩, hb, ?_⟩
  rw [Subtype.ext_iff]
  have hx := ofInt8 x
  have hy := ofInt8 y
  have hx2 := x.2
  have hy2 := y.2
  constructor
  · intro h
    have h1 : BitVec.ofInt 8 x.1 ^^^ BitVec.ofInt 8 y.1 = BitVec.ofInt 8 x.1 := by
      apply BitVec.eq_of_toNat_eq
      simp only at h
      omega
    have h2 : BitVec.ofInt 8 y.1 = 0#8 := by
      have : BitVec.ofInt 8 x.1 ^^^ (BitVec.ofInt 8 x.1 ^^^ BitVec.ofInt 8 y.1) = BitVec.ofInt 8 x.1 ^^^ BitVec.ofInt 8 x.1 := by rw [h1]
      rwa [← BitVec.xor_assoc, BitVec.xor_self, BitVec.zero_xor] at this
    rw [h2] at hy
    simp at hy
    omega
  · intro h
    have h2 : BitVec.ofInt 8 y.1 = 0#8 := by rw [h]; rfl
    simp only
    rw [h2, BitVec.xor_zero, hx]
    omega
theorem spoilt_some {t : List Col} {bs : List U8} (ht : t.length = 64) (hl : bs.length = (tileB t).length) (hne : bs ≠ tileB t) {u : List Col} {n : Nat} (h : readT bs = some (u, n)) :
    u.length = 64 ∧ n ≤ (tileB t).length ∧ bs.take n = tileB u ∧ ¬ u = t ∧ ¬ tileB u = (tileB t).take n := by
  obtain ⟨h1, h2, h3, h4, _⟩ := readT_some h
  refine ⟨h1, by omega, h4, ?_, ?_⟩
  · rintro rfl
    rw [h2, List.take_of_length_le (by omega)] at h4
    exact hne h4
  · intro e
    have h5 := readT_tileB u ((tileB t).drop n) h1
    rw [e, List.take_append_drop] at h5
    have h6 := readT_tileB t [] ht
    rw [List.append_nil, h5] at h6
    simp only [Option.some.injEq, Prod.mk.injEq] at h6
    obtain ⟨rfl, _⟩ := h6
    rw [h2, List.take_of_length_le (by omega)] at h4
    exact hne h4
section
variable {ops : Array Oper} {rest : List Oper} {o : Oper} {a : Act} {Q : Exit → Act → World → Prop}
theorem wplG_build_tile {w : World} (hw : Region.wanted o (yielded ops a.tmps) = true) (ho : o.op = .build 29 #[]) (h : wpList Try.prog ops Q rest (a.put o.dst (.agg (tcA blankT))) w) : wpList Try.prog ops Q (o :: rest) a w := by
  refine wplG hw ?_
  have hz := (zero_of_info zero_tile).1
  have h27 := Try.sizeOf27
  unfold Oper.wp execOp
  simp only [ho]
  simp [Instr.build, hz, run_underlying Try.underlying29, h27, Instr.fill, Value.cells]
  exact h
end


set_option maxRecDepth 100000 in
set_option maxHeartbeats 4000000 in
theorem law_Spoilt (t : List Col) (at_ : I64) (by_ : U8) (w : World) (ht : t.length = 64) :
    Calls Try.prog 4 #[.agg (tcA t), ei at_, e8 by_] w fun e w' => e = .returned (.bool true) ∧ New w w' := by
  have HT := Lib.hid ht
  have hn0 := new_alloc w (.cells (tcA t) 29)
  have hb0 := BoxA.new w 29 (tcA t)
  have HN0 := Lib.hid hn0
  have HB0 := Lib.hid hb0
  have hlp := tileB_length_pos t ht
  have hle := tileB_le t
  have HLE := Lib.hid (show (tileB t).length ≤ 320 by omega)
  have HRT := Lib.hid (rn_Tile t · ht)
  obtain ⟨tb, htb⟩ : ∃ tb, tb = tileB t := ⟨_, rfl⟩
  have HTB := Lib.hid htb
  rw [← htb] at hlp HLE HRT
  have hz : ((tb.length : Int) == 0) = false := by rw [beq_eq_false_iff_ne]; omega
  obtain ⟨m, hm, hrem⟩ : ∃ m : Nat, m < tb.length ∧ (at_.1 % 18446744073709551616) % (tb.length : Int) = m :=
    ⟨((at_.1 % 18446744073709551616) % (tb.length : Int)).toNat, by
      have h2 := Int.emod_nonneg (at_.1 % 18446744073709551616) (show (tb.length : Int) ≠ 0 by omega)
      have h3 := Int.emod_lt_of_pos (at_.1 % 18446744073709551616) (show (0 : Int) < tb.length by omega)
      constructor <;> omega⟩
  have hrem2 : wrap64 ((IntKind.u64.wrap at_.1).tmod (tb.length : Int)) = (m : Int) := by
    have h0 := Int.emod_nonneg at_.1 (show (18446744073709551616 : Int) ≠ 0 by decide)
    have := HLE.out
    rw [IntKind.wrap_u64, Int.tmod_eq_emod_of_nonneg h0, hrem]
    unfold wrap64
    omega
  have hL : IntKind.u64.wrap (tb.length : Int) = (tb.length : Int) := by have := HLE.out; rw [IntKind.wrap_u64]; omega
  have HM := Lib.hid hm
  clear hn0 hb0 ht hlp hle htb hrem
  go_enter Try.func4, Try.ntmps4
  go_wp2_with fail
  refine (law_wakes _).mono ?_
  rintro e w1 ⟨rfl, hN⟩
  have HN1 := Lib.hid (HN0.out.trans hN)
  have HB1 := Lib.hid (HB0.out.later hN)
  have HS1 := Lib.hid (HB0.out.later hN).lt
  clear hN HN0 HB0
  go_wp2_with (refine wplG_load (by rfl) (.tmp 3) rfl _ _ rfl (tcl t) _ HB1.out.range Try.underlying29 rfl (size_tcl HT.out) ?_)
  refine (HRT.out _).mono ?_
  rintro e w2 ⟨A2, c2, rfl, hN, hO⟩
  have HN2 := Lib.hid (HN1.out.trans hN)
  have HB2 := Lib.hid (HB1.out.later hN)
  have HO2 := Lib.hid hO
  clear hN hO HN1 HB1
  go_wp2_with fail
  refine (oc_clone8 _ _ _ tb _ (HO2.out.rd (Nat.le_refl _)) (by have := HLE.out; omega)).mono ?_
  rintro e w3 ⟨A3, c3, rfl, hN, hO⟩
  have HN3 := Lib.hid (HN2.out.trans hN)
  have HB3 := Lib.hid (HB2.out.later hN)
  have HO3 := Lib.hid (HO2.out.new hN)
  have HW3 := Lib.hid (hO.rd (Nat.le_refl _))
  have HLT := Lib.hid HO2.out.lt
  clear hN hO
  obtain ⟨x, hx⟩ : ∃ x, x = tb[m]'HM.out := ⟨_, rfl⟩
  obtain ⟨g, rfl, hlo, hgl, hcell, hfr, hst⟩ := HO3.out.store rfl m HM.out
  rw [← hx] at hcell
  obtain ⟨y, hxor, hyx⟩ := xor8 x by_
  have hw4 := hst y
  obtain ⟨w4, hw4e⟩ : ∃ w4, w4 = w3.setCell ⟨g, m, none⟩ (e8 y) := ⟨_, rfl⟩
  rw [← hw4e] at hw4
  have hc4 : Chg (fun k => k = g) w3 w4 := by rw [hw4e]; exact (Chg.refl (fun k => k = g) w3).setCell (p := ⟨g, m, none⟩) (.inl rfl) _
  have hgl2 := (HLT.out g rfl).2
  have hgl1 := (HLT.out g rfl).1
  have HN4 := Lib.hid (HN3.out.trans' hc4 (fun k hk => by have := HS1.out; omega))
  have HB4 := Lib.hid (HB3.out.chg hc4 (by have := HS1.out; omega))
  have HW4 := Lib.hid (HW3.out.chg hc4 (fun k h1 h2 => by omega))
  obtain ⟨bs, hbs⟩ : ∃ bs, bs = tb.set m y := ⟨_, rfl⟩
  have hbl : bs.length = tb.length := by rw [hbs, List.length_set]
  rw [← hbs] at hw4
  have hrd4 : Rd e8 w1.heap.size w4.heap.size w4 (.slice (some ⟨g, 0, none⟩) tb.length c2) bs := hw4.rd (Nat.le_refl _)
  have hrt : Calls Try.prog 14 #[.slice (some ⟨g, 0, none⟩) tb.length c2] w4 (OutRT (readT bs) w4) := by
    have hrd5 := hrd4
    rw [← hbl] at hrd5 ⊢
    exact rn_ReadTile _ _ _ _ bs w4 hrd5 (Nat.le_refl _) (by have := HLE.out; omega)
  have hbse : bs = tb ↔ by_.1 = 0 := by
    rw [← hyx, hbs, hx]
    constructor
    · intro h
      have h2 : (tb.set m y)[m]'(by rw [List.length_set]; exact HM.out) = tb[m]'HM.out := by simp only [h]
      rwa [List.getElem_set_self] at h2
    · intro h
      rw [h, List.set_getElem_self]
  have HRT4 := Lib.hid hrt
  have HRD4 := Lib.hid hrd4
  have HBL := Lib.hid hbl
  have hsm : (0 : Int) ≤ (m : Int) := by omega
  have hsm2 : (m : Int) < (tb.length : Int) := by have := HM.out; omega
  have hy8 : IntKind.u8.wrap y.1 = y.1 := by rw [IntKind.wrap_u8]; have := y.2; omega
  have HBSE := Lib.hid hbse
  clear hst hw4 hc4 hgl2 hgl1 hlo hgl hbs hbl hrd4 hrt hbse hyx hx HO3 HO2 HN2 HN3 HB2 HB3 HW3 HLT
  go_wp2_with fail
  rw [← hw4e]
  clear hw4e hcell hfr hxor
  refine HRT4.out.mono ?_
  clear HRT4
  by_cases hb0 : by_.1 = 0
  · have hq : (by_.1 == 0) = true := by simp [hb0]
    have hbe := HBSE.out.2 hb0
    have hR := readT_tileB t [] HT.out
    rw [List.append_nil, ← HTB.out, ← hbe] at hR
    rw [hR]
    rintro e w6 ⟨hN, rfl⟩
    have HN6 := Lib.hid (HN4.out.trans hN)
    have HB6 := Lib.hid (HB4.out.later hN)
    have heq := run_eqT t t HT.out HT.out
    rw [decide_eq_true (rfl : t = t), show tcA t = (tcl t).toArray from rfl] at heq
    have HU := HT
    clear hN hR hbe hb0
    dsimp only
    go_wp2_with (first
      | (refine wpl_alloc_tile rfl rfl ?_)
      | (refine wpl_store_tileG rfl (.tmp 9) (.tmp 39) rfl _ rfl t HU.out rfl blankT_length (BoxA.new _ _ _) ?_; rintro w7 hb hc; have hN67 := (new_refl w6).trans' ((new_alloc w6 _).chg _ |>.trans hc) (fun k hk => by omega); have HN67 := Lib.hid hN67; have HB7 := Lib.hid (HB6.out.later hN67); obtain ⟨q7, hq7⟩ : ∃ q, w6.heap.size = q := ⟨_, rfl⟩; rw [hq7] at hb ⊢; have HC7 := Lib.hid hb; clear hb hc hq7 hN67)
      | (refine wplG_build_tile (by rfl) rfl ?_)
      | (refine wplG_load (by rfl) (.tmp 9) rfl _ _ rfl (tcl t) _ HC7.out.range Try.underlying29 rfl (size_tcl HU.out) ?_)
      | (refine wplG_load (by rfl) (.tmp 3) rfl _ _ rfl (tcl t) _ HB7.out.range Try.underlying29 rfl (size_tcl HT.out) ?_))
    go_ret
    exact ⟨rfl, HN6.out.trans HN67.out⟩
  · have hq : (by_.1 == 0) = false := by simp [hb0]
    have hbn : ¬ bs = tileB t := by rw [← HTB.out]; exact fun h => hb0 (HBSE.out.1 h)
    cases hR : readT bs with
    | none =>
      rintro e w6 ⟨hN, rfl⟩
      have HN6 := Lib.hid (HN4.out.trans hN)
      have HB6 := Lib.hid (HB4.out.later hN)
      have heq := run_eqT blankT blankT blankT_length blankT_length
      rw [decide_eq_true (rfl : blankT = blankT), show tcA blankT = (tcl blankT).toArray from rfl] at heq
      have HU := Lib.hid blankT_length
      have hbt : tcA blankT = (tcl blankT).toArray := rfl
      clear hN hR hbn hb0
      dsimp only
      go_wp2_with (first
        | (refine wpl_alloc_tile rfl rfl ?_)
        | (refine wpl_store_tileG rfl (.tmp 9) (.tmp 39) rfl _ rfl blankT HU.out rfl blankT_length (BoxA.new _ _ _) ?_; rintro w7 hb hc; have hN67 := (new_refl w6).trans' ((new_alloc w6 _).chg _ |>.trans hc) (fun k hk => by omega); have HN67 := Lib.hid hN67; have HB7 := Lib.hid (HB6.out.later hN67); obtain ⟨q7, hq7⟩ : ∃ q, w6.heap.size = q := ⟨_, rfl⟩; rw [hq7] at hb ⊢; have HC7 := Lib.hid hb; clear hb hc hq7 hN67)
        | (refine wplG_build_tile (by rfl) rfl ?_)
        | (refine wplG_load (by rfl) (.tmp 9) rfl _ _ rfl (tcl blankT) _ HC7.out.range Try.underlying29 rfl (size_tcl HU.out) ?_)
        | (refine wplG_load (by rfl) (.tmp 3) rfl _ _ rfl (tcl t) _ HB7.out.range Try.underlying29 rfl (size_tcl HT.out) ?_))
      go_ret
      exact ⟨rfl, HN6.out.trans HN67.out⟩
    | some r =>
      obtain ⟨u, n⟩ := r
      obtain ⟨hu, hn, htk, hut, hnt⟩ := spoilt_some HT.out (by rw [HBL.out, HTB.out]) hbn hR
      rw [← HTB.out] at hn hnt
      rintro e w6 ⟨hN, rfl⟩
      have HN6 := Lib.hid (HN4.out.trans hN)
      have HB6 := Lib.hid (HB4.out.later hN)
      have hne := run_neT u t hu HT.out
      rw [decide_eq_true hut, show tcA u = (tcl u).toArray from rfl, show tcA t = (tcl t).toArray from rfl] at hne
      have HU := Lib.hid hu
      have HRD6 := Lib.hid (HRD4.out.new hN)
      have HW6 := Lib.hid (HW4.out.new hN)
      have HTK := Lib.hid htk
      have HNT := Lib.hid hnt
      have HNL := Lib.hid hn
      clear hN hR hbn hb0 hut hu htk hnt
      dsimp only
      go_wp2_with (first
        | (refine wpl_alloc_tile rfl rfl ?_)
        | (refine wpl_store_tileG rfl (.tmp 9) (.tmp 39) rfl _ rfl u HU.out rfl blankT_length (BoxA.new _ _ _) ?_; rintro w7 hb hc; have hN67 := (new_refl w6).trans' ((new_alloc w6 _).chg _ |>.trans hc) (fun k hk => by omega); have HN67 := Lib.hid hN67; have HB7 := Lib.hid (HB6.out.later hN67); obtain ⟨q7, hq7⟩ : ∃ q, w6.heap.size = q := ⟨_, rfl⟩; rw [hq7] at hb ⊢; have HC7 := Lib.hid hb; clear hb hc hq7 hN67)
        | (refine wplG_build_tile (by rfl) rfl ?_)
        | (refine wplG_load (by rfl) (.tmp 9) rfl _ _ rfl (tcl u) _ HC7.out.range Try.underlying29 rfl (size_tcl HU.out) ?_)
        | (refine wplG_load (by rfl) (.tmp 3) rfl _ _ rfl (tcl t) _ HB7.out.range Try.underlying29 rfl (size_tcl HT.out) ?_))
      refine (rn_Tile u _ HU.out).mono ?_
      rintro e w8 ⟨A8, c8, rfl, hN, hO⟩
      have HN8 := Lib.hid (HN67.out.trans hN)
      have HB8 := Lib.hid (HB7.out.later hN)
      have HC8 := Lib.hid (HC7.out.later hN)
      have HO8 := Lib.hid (hO.rd (Nat.le_refl _))
      have hbl := HBL.out
      have hrc := HRD6.out
      have hwc := HW6.out
      rw [← hbl] at hrc
      obtain ⟨p1, hp1, hpl1, hPR⟩ := hrc.cut n
      obtain ⟨p2, hp2, hpl2, hPW⟩ := hwc.cut n
      have hpn1 : p1.length = n := by rw [hpl1, hbl]; omega
      have hpn2 : p2.length = n := by rw [hpl2]; omega
      rw [hpn1] at hPR
      rw [hpn2] at hPW
      have hs1 := sliceG_h Try.underlying23 size_u8 (some ⟨g, 0, none⟩) tb.length c2 n HNL.out (by have := hrc.le_cap; omega)
      have hs2 := sliceG_h Try.underlying23 size_u8 A3 tb.length c3 n HNL.out hwc.le_cap
      have HP1 := Lib.hid (show p1 = tileB u by rw [hp1, HTK.out])
      have HP2 := Lib.hid (show ¬ tileB u = p2 by rw [hp2]; exact HNT.out)
      have HPR := Lib.hid (hPR.new HN8.out)
      have HPW := Lib.hid (hPW.new HN8.out)
      clear hN hO hbl hrc hwc hp1 hpl1 hPR hp2 hpl2 hPW
      generalize tileB u = ub at *
      go_wp2_with (first
        | (refine wplG_load (by rfl) (.tmp 9) rfl _ _ rfl (tcl u) _ HC8.out.range Try.underlying29 rfl (size_tcl HU.out) ?_)
        | (refine wplG_load (by rfl) (.tmp 3) rfl _ _ rfl (tcl t) _ HB8.out.range Try.underlying29 rfl (size_tcl HT.out) ?_))
      have hPR := HPR.out
      refine (oc_eq8 _ _ _ _ _ _ ub p1 _ HO8.out (by rw [hpn1.symm] at hPR ⊢; exact hPR)).mono ?_
      rw [decide_eq_true HP1.out.symm]
      rintro e w9 ⟨rfl, nd, hd⟩
      have hN : New w8 w9 := by rw [hd]; exact New.drewN (new_refl _) _
      have HN9 := Lib.hid (HN8.out.trans hN)
      have HO9 := Lib.hid (HO8.out.new hN)
      have HPW9 := Lib.hid (HPW.out.new hN)
      have HMIN : Hid (n = min n tb.length) := Lib.hid (Nat.min_eq_left HNL.out).symm
      clear hN hd
      go_wp2_with ((with_reducible change wpList _ _ _ (⟨some 78, _, _, _, _, _⟩ :: _) _ _); refine wplG_min2 (by rfl) (.tmp 75) (.tmp 77) rfl rfl rfl HMIN.out ?_)
      refine (oc_eq8 _ _ _ _ _ _ ub p2 _ HO9.out HPW9.out).mono ?_
      rw [decide_eq_false HP2.out]
      rintro e w10 ⟨rfl, nd, hd⟩
      have HNA : Hid (New w w10) := Lib.hid (by rw [hd]; exact New.drewN (HN6.out.trans HN9.out) _)
      clear hd
      go_wp2
      go_ret
      exact ⟨rfl, HNA.out⟩
end Go.Proofs.Ythihffglkheleaa
